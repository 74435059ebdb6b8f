/- Letters are interlaced both ways, loops that are turned and told back are the same and drawn alike, and crossings are taken out. (Part 2 of 6.) -/
import Derived.Handed
import Derived.HandedShaped
import Derived.Test.YtcgoaipbfnhjhaaGreatDoorProg
import Derived.Below
import Derived.Deep.Draws
import Derived.Deep.AppendLies
import Derived.Maps.AppendAt
import Derived.OwnWalk
import Derived.Laws.BytesArg
import Derived.Laws.MakeOwn
import Derived.Laws.OwnMore
import Derived.Deep.OwnRows
import Derived.Tactics
import Derived.Lib.ConvBytes
import Derived.Laws.Slices
import Derived.WalkKit
import Derived.KernelRfl
import Derived.RowKit3
import Derived.Deep.LoopGhost
import Derived.Deep.QuietTactic
import Derived.BigQuiet
import Derived.WideLaws
import Derived.Deep.DeepCutAuto
import Derived.Deep.CutBlock
import Derived.Deep.RegionHeld3
import Derived.Laws.Rows
import Derived.Lib.AppendStr
import Derived.ArgAppend
import Derived.Laws.IdiomCopy
import Derived.OrdersHeld
import Derived.Laws.BitsLemmas
import Derived.RowKit
import Derived.Shelf.Abstract
import Derived.Laws.Strings
import Derived.Shelf.Small.Strs
import Derived.Ground.NamesProg
import Derived.Shelf.Strings.LastIndex
import Derived.Shelf.Strings.Count
import Derived.Shelf.Strings.Search3
import Derived.Shelf.Strings.SlTrimAscii
import Derived.Lib.OthersKept
import Derived.IntWalk
import Derived.Deep.RegionWith
import Derived.Test.YtcgoaipbfnhjhaaGreatDoorKFnLoopsLace0
/- The wrap of a row whose contract wants the world's shape too: a variable of the library's own holds some number. -/
namespace Go.Proofs.YtcgoaipbfnhjhaaGreatDoor.RowS
open Go
variable {H : Type} {enc : TypeId × Value → H}

theorem returns_and_shaped {a : Assume} {C : Checked} {os : Os} {f : FuncId} {fn : Func} {s : ChangeSpec} {conds : List PathCond} {apart fresh handsOn again : Bool} {X : World → Array Value → Prop}
    (hX : ∀ (w w' : World) (args : Array Value), w.heap = w'.heap → X w args → X w' args)
    (own : ownKnob C.prog.godebug = none) (started : os.Started) (noInit : C.prog.inits.idxOf? f = none) (hfn : C.prog.funcs[f]? = some fn)
    (witness : ∃ (w : World) (tape : Tape) (i : Input), w.os = os ∧ (w.forCall tape i).Shaped C.prog ∧ i.vars = [] ∧ Input.okWide C.prog (w.forCall tape i) .any w.heap.size f i ∧
      ((s.pre enc C.prog fn conds apart (w.forCall tape i).memory i.args ∧ X (w.forCall tape i).memory i.args) ∧ sizedMet enc C.prog fn (OpenSpec.ofChange s) apart (w.forCall tape i).memory i.args) ∧ a.holds C.prog (lone (Frame.enter C.prog f i.args .normal) [] (w.forCall tape i)))
    (contract : ∀ (W : World) (base : Nat) (args : Array Value) (ds gs : List (DataW H)) (before : List MemPlace),
      (∀ (j : Nat) t v, fn.params[j]? = some t → args[j]? = some v → Value.okWide C.prog W .any base t v) →
      DataW.Whole enc C.prog fn.params.toList s.vars apart W args.toList ds gs before →
      conds.all (PathCond.test C.prog ⟨fn.params.toList, ds, s.plain.varTypes C.prog, gs⟩) = true →
      (DataW.weightsEach C.prog (fn.params.toList ++ s.plain.varTypes C.prog) (ds ++ gs)).all (· ≤ reachBytes) = true → X W args → W.ShapedOpen C.prog →
      a.holds C.prog (lone (Frame.enter C.prog f args .normal) [] W) →
      Calls C.prog f args W fun e W' => ∃ v, e = .returned v ∧ s.post enc C.prog fn apart fresh handsOn again W args v W') :
    ReturnsInHanded a C os f .any (fun w args => (s.pre enc C.prog fn conds apart w args ∧ X w args) ∧ sizedMet enc C.prog fn (OpenSpec.ofChange s) apart w args) (s.post enc C.prog fn apart fresh handsOn again) := by
  refine returnsInHanded_of_calls own started noInit witness ?_
  intro w tape i _ hsh _ hok hpre hholds
  obtain ⟨_, _, _, fn', hfn', _, _, _, _, hval⟩ := hok
  have e : fn' = fn := Option.some.inj (hfn'.symm.trans hfn)
  subst e
  obtain ⟨⟨⟨ds, gs, before, hw, hc⟩, hx⟩, hz⟩ := hpre
  have hw' := DataW.Whole.of_heap (w' := w.forCall tape i) (by rfl) hw
  refine (contract (w.forCall tape i) w.heap.size i.args ds gs before hval hw' hc (hz.weights hw) (hX _ _ _ (by rfl) hx) hsh hholds).mono fun e W' ⟨v, he, hp⟩ => ?_
  subst he
  exact ChangeSpec.post_blind hp
end Go.Proofs.YtcgoaipbfnhjhaaGreatDoor.RowS

-- Written by a program for this claim.
namespace Go.Proofs.YtcgoaipbfnhjhaaGreatDoor.Pr
open Go.RowKit Go.Proofs.YtcgoaipbfnhjhaaGreatDoorW.PrintWords Go.Proofs.YtcgoaipbfnhjhaaGreatDoorW.PrintLast Go.Proofs.YtcgoaipbfnhjhaaGreatDoorW.PrintMore
attribute [local go_sem] max2_int min2_int max_two min_two max_three min_three max_four min_four   -- for this text's walks alone
set_option linter.unusedVariables false
set_option linter.unusedSimpArgs false



def errW : Option Int → Value
  | none => .nilIface
  | some c => .iface 0 (.int .i64 c)
theorem errW_none : errW none = .nilIface := rfl
theorem errW_some (c : Int) : errW (some c) = .iface 0 (.int .i64 c) := rfl

theorem info5 : (Tryz.prog.info? 5).map (fun i => (i.zero, i.size, i.bytes)) = some (some (.int .u8 0), 1, 1) := by kernel_rfl
theorem info9 : (Tryz.prog.info? 9).map (fun i => (i.zero, i.size, i.bytes)) = some (some (.string ⟨#[]⟩), 1, 16) := by kernel_rfl
-- the values' own types
def rd_L4 (xs : List (List Int)) (i : Int) : (List Int) := xs.getD i.toNat ([] : List Int)
theorem at_L4 {w : World} {A : Option Addr} {n : Nat} {xs : List (List Int)} (h : Kd.C (Kd.slice 5 (Kd.int .u8)) w A n xs) (i : Int) (h0 : 0 ≤ i) (h1 : i < n) : ∃ ad A0 c0, A = some ad ∧ w.cell? (ad.add i.toNat) = some (.slice A0 (rd_L4 xs i).length c0) ∧ (rd_L4 xs i).length ≤ c0 ∧ (Kd.int .u8).C w A0 (rd_L4 xs i).length (rd_L4 xs i) := by
  obtain ⟨ad, c, e, _, hK, hc0⟩ := Kd.C_get h ([] : List Int) i h0 h1
  have hc : ∀ j u, c[j]? = some u → w.cell? (ad.add (i.toNat * 1 + j)) = some u := hc0
  obtain ⟨A0, c0, rfl, l0, g0⟩ := hK
  exact ⟨ad, A0, c0, e, by have hq := hc 0 _ rfl; rwa [Nat.mul_one, Nat.add_zero] at hq, l0, g0⟩

end Go.Proofs.YtcgoaipbfnhjhaaGreatDoor.Pr

/- What is asked of a predicate that is handed to the library, and the place of the first element for which it holds. -/
namespace Go.Proofs.YtcgoaipbfnhjhaaGreatDoor.Pr
open Go.RowKit Go.Proofs.YtcgoaipbfnhjhaaGreatDoorW.PrintWords Go.Proofs.YtcgoaipbfnhjhaaGreatDoorW.PrintLast Go.Proofs.YtcgoaipbfnhjhaaGreatDoorW.PrintMore
set_option linter.unusedVariables false
set_option linter.unusedSimpArgs false

/-- A function value that tells p of the elements of a list, in any world in which what was there is as it was. -/
def PredB {α : Type} (g : Nat) (lb : Array Value) (enc : α → Value) (p : α → Bool) (zs : List α) (w : World) : Prop :=
  ∀ (W : World) (x : α), x ∈ zs → Below w.heap.size w W → Calls Tryz.prog g (#[enc x] ++ lb) W fun e w' => e = .returned (.bool (p x)) ∧ Below W.heap.size W w'
/-- The place of the first element for which p holds, or -1. -/
def idxP {α : Type} (p : α → Bool) : List α → Int
  | [] => -1
  | x :: r => if p x = true then 0 else if idxP p r < 0 then -1 else idxP p r + 1
theorem idxP_ge {α : Type} (p : α → Bool) : ∀ l : List α, -1 ≤ idxP p l
  | [] => by simp [idxP]
  | x :: r => by
    have := idxP_ge p r
    unfold idxP
    split
    · omega
    · split <;> omega
theorem idxP_nonneg {α : Type} (p : α → Bool) : ∀ l : List α, decide (idxP p l ≥ 0) = l.any p
  | [] => by simp [idxP]
  | x :: r => by
    have ih := idxP_nonneg p r
    unfold idxP
    rw [List.any_cons, ← ih]
    cases hx : p x with
    | true => simp
    | false =>
      simp only [Bool.false_eq_true, if_false, Bool.false_or]
      split
      · rename_i h; simp; omega
      · rename_i h; simp; omega
theorem idxP_none {α : Type} (p : α → Bool) : ∀ l : List α, (∀ x ∈ l, p x = false) → idxP p l = -1
  | [], _ => rfl
  | x :: r, h => by
    unfold idxP
    rw [if_neg (by rw [h x (List.mem_cons_self ..)]; simp), idxP_none p r (fun y hy => h y (List.mem_cons_of_mem _ hy))]
    simp
theorem idxP_at {α : Type} (p : α → Bool) : ∀ (l : List α) (i : Nat) (h : i < l.length), p l[i] = true → (∀ j (hj : j < i), p (l[j]'(by omega)) = false) → idxP p l = i
  | [], i, h, _, _ => by simp at h
  | x :: r, 0, h, hp, _ => by
    unfold idxP
    rw [if_pos (by simpa using hp)]
    rfl
  | x :: r, i + 1, h, hp, hn => by
    have h0 := hn 0 (by omega)
    have ih := idxP_at p r i (by simpa using h) (by simpa using hp) (fun j hj => by simpa using hn (j + 1) (by omega))
    unfold idxP
    rw [if_neg (by simp at h0; rw [h0]; simp), ih, if_neg (by omega)]
    omega

end Go.Proofs.YtcgoaipbfnhjhaaGreatDoor.Pr

/- Bytes as elements. -/
namespace Go.Proofs.YtcgoaipbfnhjhaaGreatDoor.Pr
open Go.RowKit Go.Proofs.YtcgoaipbfnhjhaaGreatDoorW.PrintWords Go.Proofs.YtcgoaipbfnhjhaaGreatDoorW.PrintLast Go.Proofs.YtcgoaipbfnhjhaaGreatDoorW.PrintMore
set_option linter.unusedVariables false
set_option linter.unusedSimpArgs false

def encB (x : Int) : Value := .int .u8 x
theorem rdB (l : List Int) (i : Nat) (h : i < l.length) : rd l (i : Int) = l[i] := by
  unfold rd
  simp [List.getD_eq_getElem?_getD, List.getElem?_eq_getElem h]

end Go.Proofs.YtcgoaipbfnhjhaaGreatDoor.Pr

/- A text's bytes as a row. -/
namespace Go.Proofs.YtcgoaipbfnhjhaaGreatDoor.Pr
open Go.RowKit Go.Proofs.YtcgoaipbfnhjhaaGreatDoorW.PrintWords Go.Proofs.YtcgoaipbfnhjhaaGreatDoorW.PrintLast Go.Proofs.YtcgoaipbfnhjhaaGreatDoorW.PrintMore
set_option linter.unusedVariables false
set_option linter.unusedSimpArgs false

theorem bytes_C (W : World) (e : Nat) (s : ByteArray) (hs : s.size ≤ 9223372036854775807) : Kd.C (Kd.int .u8) (Lib.bytesWorld W e s) (some ⟨W.heap.size, 0, none⟩) (bytesOf s).length (bytesOf s) := by
  have h := bytes_reads W e s hs
  refine ⟨rfl, by rw [bytesOf_length]; exact hs, fun hn => ?_⟩
  obtain ⟨ad, e1, hc⟩ := h.2.2 (by rwa [bytesOf_length] at hn)
  refine ⟨ad, e1, fun j p hj => ?_⟩
  obtain ⟨hjl, hp⟩ := List.getElem?_eq_some_iff.1 hj
  have h2 := hc j (by rwa [bytesOf_length] at hjl)
  rw [List.getD_eq_getElem?_getD, hj] at h2
  refine ⟨[.int .u8 p], rfl, rfl, fun i u hi => ?_⟩
  have hi2 : i = 0 := by have := (List.getElem?_eq_some_iff.1 hi).1; simp at this; exact this
  subst hi2
  obtain rfl : Value.int .u8 p = u := by simpa using hi
  show (Lib.bytesWorld W e s).cell? (ad.add (j * 1 + 0)) = _
  rw [show j * 1 + 0 = j by omega]
  exact h2
theorem cell_keep {W w' : World} {B : Nat} {v : Value} (hb : Below W.heap.size W w') (hB : B < W.heap.size) (h : W.cell? ⟨B, 0, none⟩ = some v) : w'.cell? ⟨B, 0, none⟩ = some v := (hb.cell (p := ⟨B, 0, none⟩) hB).trans h
theorem lt_keep {W w' : World} {B : Nat} (hb : Below W.heap.size W w') (hB : B < W.heap.size) : B < w'.heap.size := Nat.lt_of_lt_of_le hB hb.size
theorem below_keep {w W w' : World} (hb : Below W.heap.size W w') (h : Below w.heap.size w W) : Below w.heap.size w w' := h.trans (hb.mono h.size)
theorem toList_ne {s t : ByteArray} (h : s ≠ t) : s.toList ≠ t.toList := fun e => h (by
  rw [ByteArray.toList_eq, ByteArray.toList_eq] at e
  exact ByteArray.ext (Array.toList_inj.1 e))
end Go.Proofs.YtcgoaipbfnhjhaaGreatDoor.Pr

/- Loops as lists of letters: letters named anew, and what a loop is. Plain lists, no program. -/
namespace Go.Proofs.YtcgoaipbfnhjhaaGreatDoor.M
set_option linter.unusedVariables false
set_option linter.unusedSimpArgs false

/-- Letters named anew in the order in which they come; ns are those that have come. -/
def anew : List Int → List Int → List Int
  | _, [] => []
  | ns, x :: r => (97 + (ns.idxOf x : Int)) :: anew (if x ∈ ns then ns else ns ++ [x]) r
/-- Letters in the order in which they come, after ns. -/
def newN : List Int → List Int → List Int
  | ns, [] => ns
  | ns, x :: r => newN (if x ∈ ns then ns else ns ++ [x]) r
theorem anew_length : ∀ (w ns : List Int), (anew ns w).length = w.length
  | [], _ => rfl
  | x :: r, ns => by simp [anew, anew_length r]
theorem newN_length : ∀ (w ns : List Int), (newN ns w).length ≤ ns.length + w.length
  | [], _ => by simp [newN]
  | x :: r, ns => by
    unfold newN
    by_cases h : x ∈ ns
    · rw [if_pos h]
      have := newN_length r ns
      simp; omega
    · rw [if_neg h]
      have := newN_length r (ns ++ [x])
      simp at this ⊢; omega
/-- Another naming of the letters changes nothing. -/
theorem anew_map (f : Int → Int) : ∀ (w ns : List Int), (∀ x ∈ ns ++ w, ∀ y ∈ ns ++ w, f x = f y → x = y) → anew (ns.map f) (w.map f) = anew ns w
  | [], _, _ => rfl
  | x :: r, ns, h => by
    have hi : (ns.map f).idxOf (f x) = ns.idxOf x := by
      have : ∀ l : List Int, (∀ y ∈ l, f y = f x → y = x) → (l.map f).idxOf (f x) = l.idxOf x := by
        intro l
        induction l with
        | nil => intro _; rfl
        | cons y l ih =>
          intro hl
          simp only [List.map_cons, List.idxOf_cons]
          by_cases e : y = x
          · subst e; simp
          · have hne : f y ≠ f x := fun e2 => e (hl y (List.mem_cons_self ..) e2)
            rw [ih (fun z hz => hl z (List.mem_cons_of_mem _ hz)), show (f y == f x) = false by simpa using hne, show (y == x) = false by simpa using e]
      refine this ns (fun y hy e => h y (by simp [hy]) x (by simp) e)
    have hm : f x ∈ ns.map f ↔ x ∈ ns := by
      constructor
      · intro hx
        obtain ⟨y, hy, e⟩ := List.mem_map.1 hx
        have := h y (by simp [hy]) x (by simp) e
        exact this ▸ hy
      · exact fun hx => List.mem_map.2 ⟨x, hx, rfl⟩
    rw [List.map_cons, anew, anew, hi]
    congr 1
    by_cases hx : x ∈ ns
    · rw [if_pos hx, if_pos (hm.2 hx)]
      exact anew_map f r ns (fun a ha b hb => h a (by simp at ha ⊢; rcases ha with ha | ha <;> simp [ha]) b (by simp at hb ⊢; rcases hb with hb | hb <;> simp [hb]))
    · rw [if_neg hx, if_neg (fun e => hx (hm.1 e)), ← List.map_singleton (f := f), ← List.map_append]
      exact anew_map f r (ns ++ [x]) (fun a ha b hb => h a (by simpa using ha) b (by simpa using hb))

/-- A loop whose letters come in order: j have come; how many have come at the end. -/
def runL : Nat → List Int → Option Nat
  | j, [] => some j
  | j, x :: r => if 97 ≤ x ∧ x < 97 + j then runL j r else if x = 97 + j then runL (j + 1) r else none
def abcL (j : Nat) : List Int := (List.range j).map fun (i : Nat) => (97 : Int) + (i : Int)
theorem mem_abc (j : Nat) (x : Int) : x ∈ abcL j ↔ 97 ≤ x ∧ x < 97 + j := by
  simp only [abcL, List.mem_map, List.mem_range]
  constructor
  · rintro ⟨i, hi, rfl⟩; omega
  · intro h; exact ⟨(x - 97).toNat, by omega, by omega⟩
theorem abc_succ (j : Nat) : abcL j ++ [97 + (j : Int)] = abcL (j + 1) := by simp [abcL, List.range_succ]
theorem abc_length (j : Nat) : (abcL j).length = j := by simp [abcL]
theorem idx_abc : ∀ (j : Nat) (x : Int), x ∈ abcL j → 97 + ((abcL j).idxOf x : Int) = x
  | 0, x, h => by simp [abcL] at h
  | j + 1, x, h => by
    rw [← abc_succ] at h ⊢
    by_cases hx : x ∈ abcL j
    · rw [List.idxOf_append, if_pos hx]; exact idx_abc j x hx
    · have e : x = 97 + (j : Int) := by
        rcases List.mem_append.1 h with h | h
        · exact absurd h hx
        · simpa using h
      rw [List.idxOf_append, if_neg hx, abc_length, e]
      simp
theorem idx_none (l : List Int) (x : Int) (h : x ∉ l) : l.idxOf x = l.length := List.idxOf_eq_length h
theorem anew_run : ∀ (w : List Int) (j : Nat), anew (abcL j) w = w ↔ (runL j w).isSome = true
  | [], j => by simp [anew, runL]
  | x :: r, j => by
    unfold anew runL
    by_cases hx : x ∈ abcL j
    · have hx2 := (mem_abc j x).1 hx
      rw [if_pos hx, if_pos hx2, idx_abc j x hx, List.cons.injEq]
      simp [anew_run r j]
    · have hx2 : ¬ (97 ≤ x ∧ x < 97 + (j : Int)) := fun h => hx ((mem_abc j x).2 h)
      rw [if_neg hx, if_neg hx2, idx_none _ _ hx, abc_length, List.cons.injEq]
      by_cases e : x = 97 + (j : Int)
      · rw [if_pos e, e, abc_succ]
        simp [anew_run r (j + 1)]
      · rw [if_neg e]
        constructor
        · intro h; exact absurd h.1.symm e
        · intro h; simp at h
theorem run_mono : ∀ (w : List Int) (j J : Nat), runL j w = some J → j ≤ J ∧ J ≤ j + w.length
  | [], j, J, h => by simp [runL] at h; simp; omega
  | x :: r, j, J, h => by
    unfold runL at h
    split at h
    · have := run_mono r j J h; simp; omega
    · split at h
      · have := run_mono r (j + 1) J h; simp; omega
      · cases h
theorem run_mem : ∀ (w : List Int) (j J : Nat), runL j w = some J → (∀ x ∈ w, 97 ≤ x ∧ x < 97 + (J : Int)) ∧ ∀ i : Nat, j ≤ i → i < J → 97 + (i : Int) ∈ w
  | [], j, J, h => by simp [runL] at h; subst h; exact ⟨by simp, fun i h1 h2 => by omega⟩
  | x :: r, j, J, h => by
    unfold runL at h
    split at h
    · rename_i hx
      have hm := run_mono r j J h
      obtain ⟨h1, h2⟩ := run_mem r j J h
      exact ⟨fun y hy => by rcases List.mem_cons.1 hy with e | hy; (· subst e; omega); exact h1 y hy, fun i a b => List.mem_cons_of_mem _ (h2 i a b)⟩
    · split at h
      · rename_i hx e
        have hm := run_mono r (j + 1) J h
        obtain ⟨h1, h2⟩ := run_mem r (j + 1) J h
        refine ⟨fun y hy => by rcases List.mem_cons.1 hy with e | hy; (· subst e; omega); exact h1 y hy, fun i a b => ?_⟩
        by_cases ei : i = j
        · subst ei; rw [e]; exact List.mem_cons_self ..
        · exact List.mem_cons_of_mem _ (h2 i (by omega) b)
      · cases h

/-- How many letters of w are among the first J. -/
def totL (w : List Int) : Nat → Nat
  | 0 => 0
  | J + 1 => totL w J + w.count (97 + (J : Int))
theorem tot_cons (x : Int) (w : List Int) : ∀ J : Nat, totL (x :: w) J = totL w J + if 97 ≤ x ∧ x < 97 + (J : Int) then 1 else 0
  | 0 => by
    rw [if_neg (by omega)]
    rfl
  | J + 1 => by
    rw [totL, totL, tot_cons x w J, List.count_cons]
    simp only [beq_iff_eq]
    split <;> split <;> split <;> omega
theorem tot_all : ∀ (w : List Int) (J : Nat), (∀ x ∈ w, 97 ≤ x ∧ x < 97 + (J : Int)) → totL w J = w.length
  | [], J, _ => by
    induction J with
    | zero => rfl
    | succ J ih => simp [totL]; simpa using ih
  | x :: w, J, h => by
    rw [tot_cons, if_pos (h x (List.mem_cons_self ..)), tot_all w J (fun y hy => h y (List.mem_cons_of_mem _ hy))]
    rfl
theorem tot_two (w : List Int) : ∀ J : Nat, (∀ i : Nat, i < J → w.count (97 + (i : Int)) = 2) → totL w J = 2 * J
  | 0, _ => rfl
  | J + 1, h => by
    rw [totL, tot_two w J (fun i hi => h i (by omega)), h J (by omega)]
    omega

/-- A loop. -/
def goodL (w : List Int) : Bool := decide (w.length ≤ 16) && (anew [] w == w) && w.all (fun x => w.count x == 2)
/-- What a loop is: twice m letters, the first m ones, each twice. -/
structure Loop (w : List Int) (m : Nat) : Prop where
  len : w.length = 2 * m
  few : m ≤ 8
  run : runL 0 w = some m
  lo : ∀ x ∈ w, 97 ≤ x
  hi : ∀ x ∈ w, x < 97 + (m : Int)
  two : ∀ i : Nat, i < m → w.count (97 + (i : Int)) = 2
theorem loop_of {w : List Int} (h : goodL w = true) : ∃ m, Loop w m := by
  simp only [goodL, Bool.and_eq_true, decide_eq_true_eq, beq_iff_eq, List.all_eq_true] at h
  obtain ⟨⟨h1, h2⟩, h3⟩ := h
  have h4 := (anew_run w 0).1 h2
  obtain ⟨m, hm⟩ := Option.isSome_iff_exists.1 h4
  obtain ⟨h5, h6⟩ := run_mem w 0 m hm
  have h7 : ∀ i : Nat, i < m → w.count (97 + (i : Int)) = 2 := fun i hi => h3 _ (h6 i (by omega) hi)
  have h8 := tot_all w m h5
  rw [tot_two w m h7] at h8
  exact ⟨m, h8.symm, by omega, hm, fun x hx => (h5 x hx).1, fun x hx => (h5 x hx).2, h7⟩
theorem Loop.half {w : List Int} {m : Nat} (h : Loop w m) : w.length / 2 = m := by have := h.len; omega
theorem Loop.cnt {w : List Int} {m : Nat} (h : Loop w m) {x : Int} (h1 : 97 ≤ x) (h2 : x < 97 + (m : Int)) : w.count x = 2 := by
  have := h.two (x - 97).toNat (by omega)
  rwa [show (97 : Int) + ((x - 97).toNat : Int) = x by omega] at this
theorem Loop.good {w : List Int} {m : Nat} (h : Loop w m) : goodL w = true := by
  simp only [goodL, Bool.and_eq_true, decide_eq_true_eq, beq_iff_eq, List.all_eq_true]
  refine ⟨⟨by have := h.len; have := h.few; omega, (anew_run w 0).2 (by rw [h.run]; rfl)⟩, fun x hx => h.cnt (h.lo x hx) (h.hi x hx)⟩
/-- All letters are among the first eight. -/
theorem good_letters {w : List Int} (h : goodL w = true) : ∀ x ∈ w, 97 ≤ x ∧ x ≤ 104 := fun x hx => by
  obtain ⟨m, hm⟩ := loop_of h
  have := hm.lo x hx
  have := hm.hi x hx
  have := hm.few
  omega
theorem good_even {w : List Int} (h : goodL w = true) : w.length % 2 = 0 := by
  obtain ⟨m, hm⟩ := loop_of h
  have := hm.len
  omega
end Go.Proofs.YtcgoaipbfnhjhaaGreatDoor.M

/- The two places of a letter of a loop, and what stands between them. Plain lists, no program. -/
namespace Go.Proofs.YtcgoaipbfnhjhaaGreatDoor.M
set_option linter.unusedVariables false
set_option linter.unusedSimpArgs false

/-- A list with a letter at just two places. -/
theorem two_parts (x : Int) : ∀ (w : List Int), w.count x = 2 → ∃ p q r, w = p ++ x :: (q ++ x :: r) ∧ x ∉ p ∧ x ∉ q ∧ x ∉ r := by
  have one : ∀ (w : List Int), w.count x = 1 → ∃ q r, w = q ++ x :: r ∧ x ∉ q ∧ x ∉ r := by
    intro w
    induction w with
    | nil => intro h; simp at h
    | cons y w ih =>
      intro h
      rw [List.count_cons] at h
      by_cases e : y = x
      · subst e
        simp at h
        exact ⟨[], w, rfl, by simp, List.count_eq_zero.1 h⟩
      · rw [if_neg (by simpa using e)] at h
        obtain ⟨q, r, rfl, h1, h2⟩ := ih (by omega)
        exact ⟨y :: q, r, rfl, by simp [h1, Ne.symm e], h2⟩
  intro w
  induction w with
  | nil => intro h; simp at h
  | cons y w ih =>
    intro h
    rw [List.count_cons] at h
    by_cases e : y = x
    · subst e
      simp at h
      obtain ⟨q, r, rfl, h1, h2⟩ := one w h
      exact ⟨[], q, r, rfl, by simp, h1, h2⟩
    · rw [if_neg (by simpa using e)] at h
      obtain ⟨p, q, r, rfl, h1, h2, h3⟩ := ih (by omega)
      exact ⟨y :: p, q, r, rfl, by simp [h1, Ne.symm e], h2, h3⟩
/-- What stands between the two places of a letter. -/
def midL (x : Int) (w : List Int) : List Int := (w.drop (w.idxOf x + 1)).takeWhile (fun y => y != x)
theorem idx_parts {x : Int} {p t : List Int} (h : x ∉ p) : (p ++ x :: t).idxOf x = p.length := by
  rw [List.idxOf_append, if_neg h]
  simp
theorem mid_parts {x : Int} {p q r : List Int} (h1 : x ∉ p) (h2 : x ∉ q) : midL x (p ++ x :: (q ++ x :: r)) = q := by
  unfold midL
  rw [idx_parts h1, show p.length + 1 = (p ++ [x]).length by simp, show p ++ x :: (q ++ x :: r) = (p ++ [x]) ++ (q ++ x :: r) by simp, List.drop_left]
  rw [List.takeWhile_append_of_pos (fun y hy => by simpa using fun e : y = x => h2 (e ▸ hy))]
  simp
/-- Two letters of a loop that are interlaced. -/
def lacedL (w : List Int) (a b : Int) : Bool := (midL a w).count b == 1
theorem laced_self {w : List Int} {a : Int} (h : w.count a = 2) : lacedL w a a = false := by
  obtain ⟨p, q, r, rfl, h1, h2, h3⟩ := two_parts a w h
  unfold lacedL
  rw [mid_parts h1 h2, List.count_eq_zero.2 h2]
  rfl
theorem laced_comm1 {w : List Int} {a b : Int} (ha : w.count a = 2) (hb : w.count b = 2) (h : lacedL w a b = true) : lacedL w b a = true := by
  have hne : a ≠ b := fun e => by subst e; rw [laced_self ha] at h; cases h
  obtain ⟨p, q, r, rfl, h1, h2, h3⟩ := two_parts a w ha
  unfold lacedL at h ⊢
  rw [mid_parts h1 h2, beq_iff_eq] at h
  have split1 : ∀ l : List Int, l.count b = 1 → ∃ u v, l = u ++ b :: v ∧ b ∉ u ∧ b ∉ v := by
    intro l hl
    have hm : b ∈ l := List.count_pos_iff.1 (by omega)
    obtain ⟨u, v, rfl⟩ := List.append_of_mem hm
    rw [List.count_append, List.count_cons_self] at hl
    exact ⟨u, v, rfl, List.count_eq_zero.1 (by omega), List.count_eq_zero.1 (by omega)⟩
  have hab : (a == b) = false := by simpa using hne
  rw [List.count_append, List.count_cons, List.count_append, List.count_cons, hab] at hb
  simp only [Bool.false_eq_true, if_false, Nat.add_zero] at hb
  obtain ⟨q1, q2, rfl, hq1, hq2⟩ := split1 q h
  have ca : ∀ l : List Int, a ∉ l → l.count a = 0 := fun l hl => List.count_eq_zero.2 hl
  simp only [List.mem_append, List.mem_cons, not_or] at h2
  by_cases hp : p.count b = 1
  · obtain ⟨p1, p2, rfl, hp1, hp2⟩ := split1 p hp
    simp only [List.mem_append, List.mem_cons, not_or] at h1
    rw [show p1 ++ b :: p2 ++ a :: (q1 ++ b :: q2 ++ a :: r) = p1 ++ b :: ((p2 ++ a :: q1) ++ b :: (q2 ++ a :: r)) by simp]
    rw [mid_parts hp1 (by simp [hp2, hq1, Ne.symm hne]), List.count_append, List.count_cons_self, ca _ h1.2.2, ca _ h2.1]
    rfl
  · obtain ⟨r1, r2, rfl, hr1, hr2⟩ := split1 r (by omega)
    simp only [List.mem_append, List.mem_cons, not_or] at h3
    have hp0 : b ∉ p := List.count_eq_zero.1 (by omega)
    rw [show p ++ a :: (q1 ++ b :: q2 ++ a :: (r1 ++ b :: r2)) = (p ++ a :: q1) ++ b :: ((q2 ++ a :: r1) ++ b :: r2) by simp]
    rw [mid_parts (by simp [hp0, hq1, Ne.symm hne]) (by simp [hq2, hr1, Ne.symm hne]), List.count_append, List.count_cons_self, ca _ h2.2.2, ca _ h3.1]
    rfl
theorem laced_comm {w : List Int} {a b : Int} (ha : w.count a = 2) (hb : w.count b = 2) : lacedL w a b = lacedL w b a := by
  cases h : lacedL w a b with
  | true => exact (laced_comm1 ha hb h).symm
  | false =>
    cases h2 : lacedL w b a with
    | true => rw [laced_comm1 hb ha h2] at h; cases h
    | false => rfl

/-- The letters from x on, d of them, for which p holds. -/
def lettP (p : Int → Bool) (x : Int) : Nat → List Int
  | 0 => []
  | d + 1 => if p x = true then x :: lettP p (x + 1) d else lettP p (x + 1) d
theorem lettP_length (p : Int → Bool) : ∀ (d : Nat) (x : Int), (lettP p x d).length ≤ d
  | 0, _ => by simp [lettP]
  | d + 1, x => by
    have := lettP_length p d (x + 1)
    unfold lettP
    split <;> simp <;> omega
theorem lettP_congr (p q : Int → Bool) : ∀ (d : Nat) (x : Int), (∀ y, x ≤ y → y < x + d → p y = q y) → lettP p x d = lettP q x d
  | 0, _, _ => rfl
  | d + 1, x, h => by
    rw [lettP, lettP, h x (by omega) (by omega), lettP_congr p q d (x + 1) (fun y h1 h2 => h y (by omega) (by omega))]
theorem lettP_nil (p : Int → Bool) : ∀ (d : Nat) (x : Int), lettP p x d = [] ↔ ∀ y, x ≤ y → y < x + d → p y = false
  | 0, x => by simp [lettP]; intro y h1 h2; omega
  | d + 1, x => by
    unfold lettP
    cases hp : p x with
    | true => simp; exact ⟨x, by omega, by omega, hp⟩
    | false =>
      simp only [Bool.false_eq_true, if_false]
      rw [lettP_nil p d (x + 1)]
      constructor
      · intro h y h1 h2
        by_cases e : y = x
        · subst e; exact hp
        · exact h y (by omega) (by omega)
      · intro h y h1 h2; exact h y (by omega) (by omega)
/-- All letters that are interlaced with one. -/
def withL (w : List Int) (m : Nat) (a : Int) : List Int := lettP (fun c => lacedL w a c) 97 m
/-- How many letters are interlaced with both of two. -/
def bothL (w : List Int) (m : Nat) (a b : Int) : Nat := (lettP (fun c => lacedL w a c && lacedL w b c) 97 m).length
theorem both_comm (w : List Int) (m : Nat) (a b : Int) : bothL w m a b = bothL w m b a := by
  unfold bothL
  rw [lettP_congr _ (fun c => lacedL w b c && lacedL w a c) m 97 (fun y _ _ => Bool.and_comm _ _)]
def evenL (w : List Int) (m : Nat) : Bool := (lettP (fun c => (withL w m c).length % 2 == 1) 97 m) == []
end Go.Proofs.YtcgoaipbfnhjhaaGreatDoor.M

-- Written by a program for this claim.
namespace Go.Proofs.YtcgoaipbfnhjhaaGreatDoor.Pr
open Go.RowKit Go.Proofs.YtcgoaipbfnhjhaaGreatDoorW.PrintWords Go.Proofs.YtcgoaipbfnhjhaaGreatDoorW.PrintLast Go.Proofs.YtcgoaipbfnhjhaaGreatDoorW.PrintMore
attribute [local go_sem] max2_int min2_int max_two min_two max_three min_three max_four min_four   -- for this text's walks alone
set_option linter.unusedVariables false
set_option linter.unusedSimpArgs false

/-! ### impl_lettersOf: function 111 -/
def impl_lettersOf.f (a0 : ByteArray) : Option (ByteArray) := if 0 ≤ (wrap64 ((a0.size : Int) / 2)) then (if (wrap64 ((a0.size : Int) / 2)) ≤ 8 then (some ((⟨#[97, 98, 99, 100, 101, 102, 103, 104]⟩ : ByteArray).extract 0 ((wrap64 ((a0.size : Int) / 2)) : Int).toNat)) else (none)) else (none)
set_option maxHeartbeats 8000000 in
set_option maxRecDepth 100000 in
theorem impl_lettersOf.calls (a0 : ByteArray) (r : ByteArray) (w : World) (h : impl_lettersOf.f a0 = some r) :
    Calls Tryz.prog 111 #[.string a0] w fun e w' => e = .returned (.string r) ∧ Drawn0 w w' := by
  have H : (if 0 ≤ (wrap64 ((a0.size : Int) / 2)) then (if (wrap64 ((a0.size : Int) / 2)) ≤ 8 then (some ((⟨#[97, 98, 99, 100, 101, 102, 103, 104]⟩ : ByteArray).extract 0 ((wrap64 ((a0.size : Int) / 2)) : Int).toNat)) else (none)) else (none)) = some r := h
  clear h
  obtain ⟨ji2, hji2⟩ : ∃ j_ : Int, (wrap64 ((a0.size : Int) / 2)) = j_ := ⟨_, rfl⟩
  replace H : (if 0 ≤ (ji2) then (if (ji2) ≤ 8 then (some ((⟨#[97, 98, 99, 100, 101, 102, 103, 104]⟩ : ByteArray).extract 0 ((ji2) : Int).toNat)) else (none)) else (none)) = some r := by first | (rw [hji2] at H; exact H) | (simp only [hji2] at H ⊢; exact H)
  have hji2w : (IntKind.i64.wrap ((a0.size : Int) / 2)) = ji2 := (i64_w _).trans hji2
  by_cases c3 : 0 ≤ (ji2)
  · rw [if_pos c3] at H
    have c3b0 := eq_true c3
    have c3b1 : decide (0 ≤ (ji2)) = true := decide_eq_true c3
    clear c3
    by_cases c4 : (ji2) ≤ 8
    · rw [if_pos c4] at H
      have c4b0 := eq_true c4
      have c4b1 : decide ((ji2) ≤ 8) = true := decide_eq_true c4
      clear c4
      obtain rfl := Option.some.inj H
      go_enter Tryz.func111, Tryz.ntmps111
      go_wp2
      go_ret
      exact ⟨by first | rfl | (simp; done) | (simp only [← hji2] <;> (first | rfl | simp)) | (simp [*]; done), by repeat (first | exact Drawn0.refl _ | apply Drawn0.step)⟩
    · rw [if_neg c4] at H
      exact absurd H (by simp)
  · rw [if_neg c3] at H
    exact absurd H (by simp)

end Go.Proofs.YtcgoaipbfnhjhaaGreatDoor.Pr

/- What the program's lettersWith computes, for any predicate that leaves old memory as it was: the letters for which it holds. -/
namespace Go.Proofs.YtcgoaipbfnhjhaaGreatDoor.Pr
open Go.RowKit Go.Proofs.YtcgoaipbfnhjhaaGreatDoorW.PrintWords Go.Proofs.YtcgoaipbfnhjhaaGreatDoorW.PrintLast Go.Proofs.YtcgoaipbfnhjhaaGreatDoorW.PrintMore
set_option linter.unusedVariables false
set_option linter.unusedSimpArgs false

def lettS (m : Nat) : ByteArray := (⟨#[97, 98, 99, 100, 101, 102, 103, 104]⟩ : ByteArray).extract 0 m
theorem lettS_facts : ∀ m : Fin 9, bytesOf (lettS m.val) = M.abcL m.val ∧ (lettS m.val).size = m.val := by decide +kernel
theorem lettersOf_eq (w : ByteArray) (m : Nat) (h : w.size / 2 = m) (hm : m ≤ 8) : impl_lettersOf.f w = some (lettS m) := by
  unfold impl_lettersOf.f
  have e : wrap64 ((w.size : Int) / 2) = m := by unfold wrap64; omega
  rw [e, if_pos (by omega), if_pos (by omega)]
  rfl
theorem abc_get (m i : Nat) (h : i < m) : (M.abcL m)[i]? = some (97 + (i : Int)) := by
  unfold M.abcL
  simp [h]

theorem cell_grown {w w1 : World} {row : Option Nat} {B : Nat} (hg : w.grownBy w1 row) (hB : B < w.heap.size) (hne : some B ≠ row) (j : Nat) : w1.cell? ⟨B, j, none⟩ = w.cell? ⟨B, j, none⟩ := by
  have h := hg.block B hB hne
  unfold World.cell?
  simp only [h]
theorem own_ne_append {w : World} {v v1 : Value} {B : Nat} (hat : v1.ownBlock = v.ownBlock ∨ ∃ b, v1.ownBlock = some b ∧ w.heap.size ≤ b) (hn : v.ownBlock ≠ some B) (hB : B < w.heap.size) : v1.ownBlock ≠ some B := by
  rcases hat with h | ⟨b, h, hb⟩
  · rw [h]; exact hn
  · rw [h]
    intro e
    injection e with e
    omega

set_option maxHeartbeats 8000000 in
set_option maxRecDepth 100000 in
theorem lettersWith_calls (w0 : ByteArray) (m : Nat) (hm0 : w0.size / 2 = m) (hm : m ≤ 8) (p : Int → Bool) (g : Nat) (lb : Array Value) (eg : ∀ args w, (callFunc g args).run Tryz.prog w = .ok (.enter g args) w) (w : World)
    (hp : ∀ (W : World) (x : Int), 97 ≤ x → x < 97 + (m : Int) → Below w.heap.size w W → Calls Tryz.prog g (#[.int .u8 x] ++ lb) W fun e w' => e = .returned (.bool (p x)) ∧ Below W.heap.size W w') :
    Calls Tryz.prog 82 #[.string w0, .func (.func g) #[] lb] w fun e w' => e = .returned (.string (strOfNums (M.lettP p 97 m))) ∧ Below w.heap.size w w' := by
  have HP := Aside0.mk hp
  have HL := Aside0.mk (fun (W : World) => impl_lettersOf.calls w0 (lettS m) W (lettersOf_eq w0 m hm0 hm))
  obtain ⟨hbl, hls⟩ : bytesOf (lettS m) = M.abcL m ∧ (lettS m).size = m := lettS_facts ⟨m, by omega⟩
  have HBL := Aside0.mk hbl
  have HCC := Aside0.mk (fun (W : World) => bytes_C W 5 (lettS m) (by omega))
  clear hp hm0 hbl
  have HB := Aside0.mk (Below.refl w.heap.size w)
  go_enter Tryz.func82, Tryz.ntmps82
  go_wp2_with (first | (go_at_call 111; refine (HL.out _).mono ?_; rintro e w1 ⟨rfl, ⟨nd, rfl⟩⟩) | ((with_reducible refine gate_dst (N := 8) rfl ?_); refine Kd.R_lit (Kd.int .u8) _ 5 ?hg (N := 8) ?hd (xs := ([] : List Int)) (inner := []) (ok := fun _ => True) (okp := fun _ => True) ?hr ?hp (fun _ hk => hk) trivial (Below.refl _ _) (Nat.le_refl _) (by simp) ?_; (case hd => rfl); (case hg => rfl); (case hr => first | (go_simp; done) | (go_simp; rfl)); (case hp => exact (Reps.none _ _)); intro v244 w6 ho7 hb hg_ hnew_; clear hg_ hnew_; have n0_ := Aside0.mk (Kd.R_lower ho7 (below_size (by repeat (first | (with_reducible first | exact HB.out | apply below_alloc | apply pw_below_drewN | apply below_drew1) | exact HB.out)))); have n1_ := Aside0.mk (below_step (by repeat (first | (with_reducible first | exact HB.out | apply below_alloc | apply pw_below_drewN | apply below_drew1) | exact HB.out)) hb); clear HB; have HO0 := n0_; have HB := n1_; clear n0_ n1_; clear hb ho7))
  rw [print_bytes 9 22 5 Tryz.underlying9 Tryz.underlying22 Tryz.underlying5]
  simp only [Result.andThen]
  rw [Oper.upon_value]
  rw [hls]
  have hc0 := HCC.out (w6.drewN nd)
  have hb0 : Below w.heap.size w (Lib.bytesWorld (w6.drewN nd) 5 (lettS m)) := bytes_below (pw_below_drewN HB.out nd) (by show w.heap.size ≤ w6.heap.size; exact HB.out.size) 5 (lettS m)
  have hn0 : v244.ownBlock ≠ some w6.heap.size := fun e => by
    obtain ⟨inner, ho, _⟩ := HO0.out.2
    exact absurd (own_lt ho _ e) (by omega)
  have hlt0 : w6.heap.size < (Lib.bytesWorld (w6.drewN nd) 5 (lettS m)).heap.size := by
    rw [Lib.bytesWorld_size]
    show w6.heap.size < w6.heap.size + 1
    omega
  have ho0 : Kd.R (Kd.int .u8) 5 (Lib.bytesWorld (w6.drewN nd) 5 (lettS m)) w.heap.size (fun _ => True) v244 [] := Kd.R_below (Kd.R_drewN HO0.out nd) (bytes_below (Below.refl _ _) (Nat.le_refl _) 5 (lettS m))
  rw [HBL.out, M.abc_length] at hc0
  rw [show (w6.drewN nd).heap.size = w6.heap.size from rfl] at hc0 ⊢
  generalize grownCap (w6.drewN nd) m 0 5 = cp
  generalize Lib.bytesWorld (w6.drewN nd) 5 (lettS m) = W1 at hc0 hb0 ho0 hlt0 ⊢
  generalize w6.heap.size = B1 at hc0 hn0 hlt0 ⊢
  clear HO0 HB HCC HL HBL hls
  have hcells : ∀ j : Nat, j < m → W1.cell? ⟨B1, j, none⟩ = some (.int .u8 (97 + (j : Int))) := fun i hlt => by
    obtain ⟨ad, e1, hc⟩ := hc0.2.2 (by omega)
    injection e1 with e1
    subst e1
    obtain ⟨cs, h1, h2, h3⟩ := hc i (97 + (i : Int)) (abc_get m i hlt)
    have h4 := h3 0 (.int .u8 (97 + (i : Int))) (by rw [show cs = [Value.int .u8 (97 + (i : Int))] from h2]; rfl)
    have ha : (⟨B1, 0, none⟩ : Addr).add (i * (Kd.int .u8).sz + 0) = ⟨B1, i, none⟩ := by
      rw [add_plain]
      show (⟨B1, i * 1 + 0, none⟩ : Addr) = _
      rw [show i * 1 + 0 = i by omega]
    rwa [ha] at h4
  have HC1 := Aside0.mk hcells
  have HN1 := Aside0.mk hn0
  have HLT1 := Aside0.mk hlt0
  clear hcells hn0 hlt0
  have HB := Aside0.mk hb0
  have HO := Aside0.mk ho0
  clear hc0 hb0 ho0
  go_wp2
  go_loopg [5, 7, 13] m (fun gg v5 v7 v13 w' => ∃ (i : Nat) (xs : List Int), v13 = .int .i64 i ∧ Aside0 (i + gg = m) ∧ Aside0 (M.lettP p 97 m = xs ++ M.lettP p (97 + (i : Int)) gg) ∧ Aside0 (xs.length ≤ i) ∧ Aside0 (Kd.R (Kd.int .u8) 5 w' w.heap.size (fun _ => True) v5 xs) ∧ Aside0 (Below w.heap.size w w') ∧ Aside0 (∀ j : Nat, j < m → w'.cell? ⟨B1, j, none⟩ = some (.int .u8 (97 + (j : Int)))) ∧ Aside0 (v5.ownBlock ≠ some B1) ∧ Aside0 (B1 < w'.heap.size))
  case atStart => exact ⟨0, [], by first | rfl | (simp; done) | (simp [*]; done), ⟨by omega⟩, ⟨by simp⟩, ⟨by simp⟩, HO, HB, HC1, HN1, HLT1⟩
  case round =>
    obtain ⟨i, xs, rfl, HG, HX, HLen, HO2, HB2, HW2, HNB2, HLB2⟩ := hrel
    clear HB HO HC1 HN1 HLT1
    have HB := HB2
    have HO := HO2
    have HW := HW2
    have HNB := HNB2
    have HLB := HLB2
    clear HB2 HO2 HW2 HNB2 HLB2
    by_cases hlt : i < m
    · have c4b0 : decide ((i : Int) < (m : Int)) = true := decide_eq_true (by omega)
      have c5b0 : decide (i < m) = true := decide_eq_true hlt
      obtain ⟨gm, rfl⟩ : ∃ gm, gk = gm + 1 := ⟨gk - 1, by have := HG.out; omega⟩
      have h0 := HW.out i hlt
      have hcall := HP.out wr (97 + (i : Int)) (by omega) (by omega) HB.out
      have HN := Aside0.mk (show M.lettP p (97 + (i : Int)) (gm + 1) = if p (97 + (i : Int)) = true then (97 + (i : Int)) :: M.lettP p (97 + (i : Int) + 1) gm else M.lettP p (97 + (i : Int) + 1) gm from rfl)
      have hx0 : (0 : Int) ≤ 97 + (i : Int) := by omega
      have hx1 : 97 + (i : Int) < 128 := by omega
      cases hq : p (97 + (i : Int)) with
      | true =>
        rw [hq] at hcall
        have HQ := Aside0.mk hq
        clear hq
        go_wp2_with (first | (go_at_fn g; refine hcall.mono ?_; rintro e w1 ⟨rfl, hb1⟩; have HO1 := Aside0.mk (Kd.R_below HO.out hb1); have HBx := Aside0.mk (HB.out.trans (hb1.mono HB.out.size)); have HWx := Aside0.mk (fun (j : Nat) (hj : j < m) => (hb1.cell (p := ⟨B1, j, none⟩) HLB.out).trans (HW.out j hj)); have HLx := Aside0.mk (Nat.lt_of_lt_of_le HLB.out hb1.size); clear HO HB HW HLB; have HO := HO1; have HB := HBx; have HW := HWx; have HLB := HLx; clear HO1 HBx HWx HLx hb1) | ((with_reducible refine gate_builtin (b := .append) (xs := #[.tmp 20, .tmp 22]) rfl ?_); at_builtin; refine Kd.R_append (Kd.int .u8) (w0 := w) w.heap.size rfl (.tmp 20) (.tmp 22) 22 5 (.int .u8 0) 1 rfl Tryz.underlying22 info5 rfl (by decide) (by omega) u5 xs (97 + (i : Int)) [.int .u8 (97 + (i : Int))] (fun _ => True) (fun _ => False) rfl rfl ?aP (fun _ hk => hk.elim) ?aF ?aO ?aB ?aS ?aL ?_; (case aP => exact rfl); (case aB => exact (by repeat (first | (with_reducible first | exact HB.out | apply below_alloc | apply pw_below_drewN | apply below_drew1) | exact HB.out))); (case aF => exact (fun _ _ => trivial)); (case aO => exact (by (with_reducible repeat (first | apply Kd.R_alloc | apply Kd.R_drewN | apply Kd.R_drew)); exact HO.out)); (case aS => exact (below_size (by repeat (first | (with_reducible first | exact HB.out | apply below_alloc | apply pw_below_drewN | apply below_drew1) | exact HB.out)))); (case aL => have := HLen.out; omega); intro v361 w25 ho hb hg hat; have n0_ := Aside0.mk (hb); have n1_ := Aside0.mk (ho); have HWx := Aside0.mk (fun (j : Nat) (hj : j < m) => (cell_grown hg HLB.out (fun e => HNB.out e.symm) j).trans (HW.out j hj)); have HLx := Aside0.mk (Nat.lt_of_lt_of_le HLB.out hg.size); have HNx := Aside0.mk (own_ne_append hat HNB.out HLB.out); clear HB HO HW HLB HNB; have HB := n0_; have HO := n1_; have HW := HWx; have HLB := HLx; have HNB := HNx; clear n0_ n1_ HWx HLx HNx; clear ho hat hb hg))
        go_roundg gm
        case measure => omega
        case rel => exact ⟨i + 1, xs ++ [97 + (i : Int)], by first | rfl | (simp; done) | (simp [*]; done), ⟨by have := HG.out; omega⟩, ⟨by rw [HX.out, HN.out, if_pos HQ.out, List.append_assoc, show (97 : Int) + ((i + 1 : Nat) : Int) = 97 + (i : Int) + 1 by omega]; rfl⟩, ⟨by have := HLen.out; simp; omega⟩, HO, HB, HW, HNB, HLB⟩
      | false =>
        rw [hq] at hcall
        have HQ := Aside0.mk hq
        clear hq
        go_wp2_with (first | (go_at_fn g; refine hcall.mono ?_; rintro e w1 ⟨rfl, hb1⟩; have HO1 := Aside0.mk (Kd.R_below HO.out hb1); have HBx := Aside0.mk (HB.out.trans (hb1.mono HB.out.size)); have HWx := Aside0.mk (fun (j : Nat) (hj : j < m) => (hb1.cell (p := ⟨B1, j, none⟩) HLB.out).trans (HW.out j hj)); have HLx := Aside0.mk (Nat.lt_of_lt_of_le HLB.out hb1.size); clear HO HB HW HLB; have HO := HO1; have HB := HBx; have HW := HWx; have HLB := HLx; clear HO1 HBx HWx HLx hb1))
        go_roundg gm
        case measure => omega
        case rel => exact ⟨i + 1, xs, by first | rfl | (simp; done) | (simp [*]; done), ⟨by have := HG.out; omega⟩, ⟨by rw [HX.out, HN.out, if_neg (by rw [HQ.out]; simp), show (97 : Int) + ((i + 1 : Nat) : Int) = 97 + (i : Int) + 1 by omega]⟩, ⟨by have := HLen.out; omega⟩, HO, HB, HW, HNB, HLB⟩
    · have c4b0 : decide ((i : Int) < (m : Int)) = false := decide_eq_false (by omega)
      have c5b0 : decide (i < m) = false := decide_eq_false hlt
      have HE := Aside0.mk (show M.lettP p 97 m = xs from by
        have h0 : gk = 0 := by have := HG.out; omega
        rw [HX.out, h0]
        simp [M.lettP])
      have hcv := own_string (P := Tryz.prog) Tryz.underlying22 Tryz.underlying5 Tryz.underlying9 (Kd.own_of_R HO.out)
      clear HX HG HLen
      go_wp2
      go_ret
      exact ⟨by rw [HE.out]; rfl, HB.out⟩
end Go.Proofs.YtcgoaipbfnhjhaaGreatDoor.Pr

/-
  DERIVED: THE SHELF's CONTRACTS AT THIS DUMP, IN PLAIN WORDS (tools/lay-plain.mjs out of 'YtcgoaipbfnhjhaaGreatDoorStrLay.lean', which tools/lay-shelf.mjs wrote): THE SAME DECLARATIONS UNDER THE SAME NAMES: 'import', 'namespace', 'open', 'def', 'theorem' AND NOTHING ELSE: no command of the shelf's: FOR A HAND-IN. Each laying: the table of numbers ('.._ren') and one theorem, a field a fact of the dump's own or the kernel's comparison; each contract: ONE APPLICATION.
-/
namespace Go.Proofs
open Go.Shelf
def Tryz.l137_ren : Go.Shelf.Ren := ⟨fun | 137 => 85 | 217 => 120 | 266 => 131 | n => n, fun | 9 => 9 | 5 => 5 | 3 => 3 | n => n, fun | n => n⟩
theorem Tryz.l137 : Go.Proofs.Lays.n137 Tryz.prog Tryz.l137_ren := {
  mixed := by kernel_rfl
  f137 := Tryz.func85.trans (congrArg some (by kernel_rfl))
  f217 := Tryz.func120.trans (congrArg some (by kernel_rfl))
  f266 := Tryz.func131.trans (congrArg some (by kernel_rfl))
  t3 := Tryz.underlying3
  a3 := Tryz.isAgg3
  z3 := Tryz.sizeOf3
  v3 := Tryz.zeroValue3
  t5 := Tryz.underlying5
  a5 := Tryz.isAgg5
  z5 := Tryz.sizeOf5
  v5 := Tryz.zeroValue5
  t9 := Tryz.underlying9
  a9 := Tryz.isAgg9
  z9 := Tryz.sizeOf9
  v9 := Tryz.zeroValue9 }
def Tryz.l149_ren : Go.Shelf.Ren := ⟨fun | 149 => 84 | 222 => 119 | n => n, fun | 9 => 9 | 5 => 5 | 3 => 3 | 4 => 4 | n => n, fun | n => n⟩
theorem Tryz.l149 : Go.Proofs.Lays.n149 Tryz.prog Tryz.l149_ren := {
  mixed := by kernel_rfl
  f149 := Tryz.func84.trans (congrArg some (by kernel_rfl))
  f222 := Tryz.func119.trans (congrArg some (by kernel_rfl))
  t3 := Tryz.underlying3
  a3 := Tryz.isAgg3
  z3 := Tryz.sizeOf3
  v3 := Tryz.zeroValue3
  t4 := Tryz.underlying4
  a4 := Tryz.isAgg4
  z4 := Tryz.sizeOf4
  v4 := Tryz.zeroValue4
  t5 := Tryz.underlying5
  a5 := Tryz.isAgg5
  z5 := Tryz.sizeOf5
  v5 := Tryz.zeroValue5
  t9 := Tryz.underlying9
  a9 := Tryz.isAgg9
  z9 := Tryz.sizeOf9
  v9 := Tryz.zeroValue9 }
def Tryz.l160_ren : Go.Shelf.Ren := ⟨fun | 160 => 62 | 232 => 101 | 231 => 100 | 227 => 102 | 234 => 104 | 233 => 103 | 236 => 106 | 235 => 105 | 228 => 124 | 271 => 127 | 151 => 126 | 197 => 125 | 120 => 137 | 152 => 136 | 260 => 135 | 137 => 85 | 119 => 143 | 224 => 139 | 225 => 138 | 217 => 120 | 266 => 131 | n => n, fun | 9 => 9 | 4 => 4 | 3 => 3 | 5 => 5 | 117 => 80 | 116 => 79 | 0 => 0 | 124 => 83 | 21 => 21 | 105 => 92 | 46 => 95 | 119 => 106 | 139 => 109 | 138 => 108 | n => n, fun | 3 => 1 | 4 => 2 | n => n⟩
theorem Tryz.l160 : Go.Proofs.Lays.n160 Tryz.prog Tryz.l160_ren := {
  mixed := by kernel_rfl
  f119 := Tryz.func143.trans (congrArg some (by kernel_rfl))
  f120 := Tryz.func137.trans (congrArg some (by kernel_rfl))
  f137 := Tryz.func85.trans (congrArg some (by kernel_rfl))
  f151 := Tryz.func126.trans (congrArg some (by kernel_rfl))
  f152 := Tryz.func136.trans (congrArg some (by kernel_rfl))
  f160 := Tryz.func62.trans (congrArg some (by kernel_rfl))
  f197 := Tryz.func125.trans (congrArg some (by kernel_rfl))
  f217 := Tryz.func120.trans (congrArg some (by kernel_rfl))
  f224 := Tryz.func139.trans (congrArg some (by kernel_rfl))
  f225 := Tryz.func138.trans (congrArg some (by kernel_rfl))
  f227 := Tryz.func102.trans (congrArg some (by kernel_rfl))
  f228 := Tryz.func124.trans (congrArg some (by kernel_rfl))
  f231 := Tryz.func100.trans (congrArg some (by kernel_rfl))
  f232 := Tryz.func101.trans (congrArg some (by kernel_rfl))
  f233 := Tryz.func103.trans (congrArg some (by kernel_rfl))
  f234 := Tryz.func104.trans (congrArg some (by kernel_rfl))
  f235 := Tryz.func105.trans (congrArg some (by kernel_rfl))
  f236 := Tryz.func106.trans (congrArg some (by kernel_rfl))
  f260 := Tryz.func135.trans (congrArg some (by kernel_rfl))
  f266 := Tryz.func131.trans (congrArg some (by kernel_rfl))
  f271 := Tryz.func127.trans (congrArg some (by kernel_rfl))
  t0 := Tryz.underlying0
  a0 := Tryz.isAgg0
  z0 := Tryz.sizeOf0
  v0 := Tryz.zeroValue0
  t3 := Tryz.underlying3
  a3 := Tryz.isAgg3
  z3 := Tryz.sizeOf3
  v3 := Tryz.zeroValue3
  t4 := Tryz.underlying4
  a4 := Tryz.isAgg4
  z4 := Tryz.sizeOf4
  v4 := Tryz.zeroValue4
  t5 := Tryz.underlying5
  a5 := Tryz.isAgg5
  z5 := Tryz.sizeOf5
  v5 := Tryz.zeroValue5
  t9 := Tryz.underlying9
  a9 := Tryz.isAgg9
  z9 := Tryz.sizeOf9
  v9 := Tryz.zeroValue9
  t21 := Tryz.underlying21
  a21 := Tryz.isAgg21
  z21 := Tryz.sizeOf21
  v21 := Tryz.zeroValue21
  t46 := Tryz.underlying95
  a46 := Tryz.isAgg95
  z46 := Tryz.sizeOf95
  v46 := Tryz.zeroValue95
  t105 := Tryz.underlying92
  a105 := Tryz.isAgg92
  z105 := Tryz.sizeOf92
  v105 := Tryz.zeroValue92
  t116 := Tryz.underlying79
  a116 := Tryz.isAgg79
  z116 := Tryz.sizeOf79
  t117 := Tryz.underlying80
  a117 := Tryz.isAgg80
  z117 := Tryz.sizeOf80
  v117 := Tryz.zeroValue80
  t119 := Tryz.underlying106
  a119 := Tryz.isAgg106
  z119 := Tryz.sizeOf106
  t124 := Tryz.underlying83
  a124 := Tryz.isAgg83
  z124 := Tryz.sizeOf83
  v124 := Tryz.zeroValue83
  t138 := Tryz.underlying108
  a138 := Tryz.isAgg108
  z138 := Tryz.sizeOf108
  v138 := Tryz.zeroValue108
  t139 := Tryz.underlying109
  a139 := Tryz.isAgg109
  z139 := Tryz.sizeOf109
  v139 := Tryz.zeroValue109
  g3 := by kernel_rfl
  g4 := by kernel_rfl }
def Tryz.l138_ren : Go.Shelf.Ren := ⟨fun | 138 => 66 | 195 => 108 | 218 => 109 | 143 => 110 | 219 => 128 | 217 => 120 | 225 => 138 | 224 => 139 | 267 => 140 | 266 => 131 | 314 => 144 | n => n, fun | 9 => 9 | 3 => 3 | 4 => 4 | 5 => 5 | 0 => 0 | 46 => 95 | 146 => 112 | 51 => 111 | n => n, fun | 1 => 0 | n => n⟩
theorem Tryz.l138 : Go.Proofs.Lays.n138 Tryz.prog Tryz.l138_ren := {
  mixed := by kernel_rfl
  f138 := Tryz.func66.trans (congrArg some (by kernel_rfl))
  f143 := Tryz.func110.trans (congrArg some (by kernel_rfl))
  f195 := Tryz.func108.trans (congrArg some (by kernel_rfl))
  f217 := Tryz.func120.trans (congrArg some (by kernel_rfl))
  f218 := Tryz.func109.trans (congrArg some (by kernel_rfl))
  f219 := Tryz.func128.trans (congrArg some (by kernel_rfl))
  f224 := Tryz.func139.trans (congrArg some (by kernel_rfl))
  f225 := Tryz.func138.trans (congrArg some (by kernel_rfl))
  f266 := Tryz.func131.trans (congrArg some (by kernel_rfl))
  f267 := Tryz.func140.trans (congrArg some (by kernel_rfl))
  f314 := Tryz.func144.trans (congrArg some (by kernel_rfl))
  t0 := Tryz.underlying0
  a0 := Tryz.isAgg0
  z0 := Tryz.sizeOf0
  v0 := Tryz.zeroValue0
  t3 := Tryz.underlying3
  a3 := Tryz.isAgg3
  z3 := Tryz.sizeOf3
  v3 := Tryz.zeroValue3
  t4 := Tryz.underlying4
  a4 := Tryz.isAgg4
  z4 := Tryz.sizeOf4
  v4 := Tryz.zeroValue4
  t5 := Tryz.underlying5
  a5 := Tryz.isAgg5
  z5 := Tryz.sizeOf5
  v5 := Tryz.zeroValue5
  t9 := Tryz.underlying9
  a9 := Tryz.isAgg9
  z9 := Tryz.sizeOf9
  v9 := Tryz.zeroValue9
  t46 := Tryz.underlying95
  a46 := Tryz.isAgg95
  z46 := Tryz.sizeOf95
  v46 := Tryz.zeroValue95
  t51 := Tryz.underlying111
  a51 := Tryz.isAgg111
  z51 := Tryz.sizeOf111
  v51 := Tryz.zeroValue111
  t146 := Tryz.underlying112
  a146 := Tryz.isAgg112
  z146 := Tryz.sizeOf112
  v146 := Tryz.zeroValue112
  g1 := by kernel_rfl }
def Tryz.l144_ren : Go.Shelf.Ren := ⟨fun | 144 => 99 | 143 => 110 | 219 => 128 | 217 => 120 | 225 => 138 | 224 => 139 | 267 => 140 | 266 => 131 | 314 => 144 | n => n, fun | 9 => 9 | 4 => 4 | 3 => 3 | 5 => 5 | 46 => 95 | 146 => 112 | 51 => 111 | n => n, fun | 1 => 0 | n => n⟩
theorem Tryz.l144 : Go.Proofs.Lays.n144 Tryz.prog Tryz.l144_ren := {
  mixed := by kernel_rfl
  f143 := Tryz.func110.trans (congrArg some (by kernel_rfl))
  f144 := Tryz.func99.trans (congrArg some (by kernel_rfl))
  f217 := Tryz.func120.trans (congrArg some (by kernel_rfl))
  f219 := Tryz.func128.trans (congrArg some (by kernel_rfl))
  f224 := Tryz.func139.trans (congrArg some (by kernel_rfl))
  f225 := Tryz.func138.trans (congrArg some (by kernel_rfl))
  f266 := Tryz.func131.trans (congrArg some (by kernel_rfl))
  f267 := Tryz.func140.trans (congrArg some (by kernel_rfl))
  f314 := Tryz.func144.trans (congrArg some (by kernel_rfl))
  t3 := Tryz.underlying3
  a3 := Tryz.isAgg3
  z3 := Tryz.sizeOf3
  v3 := Tryz.zeroValue3
  t4 := Tryz.underlying4
  a4 := Tryz.isAgg4
  z4 := Tryz.sizeOf4
  v4 := Tryz.zeroValue4
  t5 := Tryz.underlying5
  a5 := Tryz.isAgg5
  z5 := Tryz.sizeOf5
  v5 := Tryz.zeroValue5
  t9 := Tryz.underlying9
  a9 := Tryz.isAgg9
  z9 := Tryz.sizeOf9
  v9 := Tryz.zeroValue9
  t46 := Tryz.underlying95
  a46 := Tryz.isAgg95
  z46 := Tryz.sizeOf95
  v46 := Tryz.zeroValue95
  t51 := Tryz.underlying111
  a51 := Tryz.isAgg111
  z51 := Tryz.sizeOf111
  v51 := Tryz.zeroValue111
  t146 := Tryz.underlying112
  a146 := Tryz.isAgg112
  z146 := Tryz.sizeOf112
  v146 := Tryz.zeroValue112
  g1 := by kernel_rfl }
end Go.Proofs

/- What the library's string functions compute: a byte's first and last place, its number, and a cut at both ends. -/
namespace Go.Proofs.YtcgoaipbfnhjhaaGreatDoor.Pr
open Go.RowKit Go.Proofs.YtcgoaipbfnhjhaaGreatDoorW.PrintWords Go.Proofs.YtcgoaipbfnhjhaaGreatDoorW.PrintLast Go.Proofs.YtcgoaipbfnhjhaaGreatDoorW.PrintMore
set_option linter.unusedVariables false
set_option linter.unusedSimpArgs false

def strings_IndexByte.f (a0 : ByteArray) (a1 : Int) : Option (Int) := some (Lib.indexByte a0.data.toList a1.toNat.toUInt8)
theorem strings_IndexByte.calls (a0 : ByteArray) (a1 : Int) (r : Int) (w : World) (h : strings_IndexByte.f a0 a1 = some r) :
    Calls Tryz.prog 85 #[.string a0, .int .u8 a1] w fun e w' => e = .returned (.int .i64 r) ∧ Drawn0 w w' := by
  obtain rfl := Option.some.inj h
  exact (Any.strings_IndexByte Tryz.l137 a0 a1 w).mono fun e w' ⟨he, hw⟩ => ⟨he, hw ▸ Drawn0.refl _⟩
def strings_LastIndexByte.f (a0 : ByteArray) (a1 : Int) : Option (Int) := if a0.size ≤ 1048576 then some (Lib.lastIndexByte a0 a1) else none
theorem strings_LastIndexByte.calls (a0 : ByteArray) (a1 : Int) (r : Int) (w : World) (h : strings_LastIndexByte.f a0 a1 = some r) :
    Calls Tryz.prog 84 #[.string a0, .int .u8 a1] w fun e w' => e = .returned (.int .i64 r) ∧ Drawn0 w w' := by
  unfold strings_LastIndexByte.f at h
  by_cases hs : a0.size ≤ 1048576
  · rw [if_pos hs] at h
    obtain rfl := Option.some.inj h
    exact (Any.strings_LastIndexByte Tryz.l149 a0 a1 (by omega) w).mono fun e w' ⟨he, hw⟩ => ⟨he, hw ▸ Drawn0.refl _⟩
  · rw [if_neg hs] at h; cases h
/-- A text of one byte. -/
theorem one_byte {s : ByteArray} (h : s.data.toList.length = 1) : s = ⟨#[s.data.toList.headD 0]⟩ := by
  obtain ⟨⟨l⟩⟩ := s
  match l, h with
  | [c], _ => rfl
def strings_Count.f (a0 : ByteArray) (a1 : ByteArray) : Option (Int) := if a1.data.toList.length = 1 then some ((a0.data.toList.count (a1.data.toList.headD 0) : Nat) : Int) else none
theorem strings_Count.calls (a0 : ByteArray) (a1 : ByteArray) (r : Int) (w : World) (h : strings_Count.f a0 a1 = some r) :
    Calls Tryz.prog 66 #[.string a0, .string a1] w fun e w' => e = .returned (.int .i64 r) ∧ Drawn0 w w' := by
  unfold strings_Count.f at h
  by_cases hs : a1.data.toList.length = 1
  · rw [if_pos hs] at h
    obtain rfl := Option.some.inj h
    have e := one_byte hs
    generalize a1.data.toList.headD 0 = c at e ⊢
    subst e
    exact (Any.strings_Count_one Tryz.l138 a0 c w).mono fun e w' ⟨he, hw⟩ => ⟨he, hw ▸ Drawn0.refl _⟩
  · rw [if_neg hs] at h; cases h
def strings_Contains.f (a0 : ByteArray) (a1 : ByteArray) : Option (Bool) := if a1.data.toList.length = 1 then some (decide (0 ≤ Lib.indexByte a0.data.toList (a1.data.toList.headD 0))) else none
theorem strings_Contains.calls (a0 : ByteArray) (a1 : ByteArray) (r : Bool) (w : World) (h : strings_Contains.f a0 a1 = some r) :
    Calls Tryz.prog 99 #[.string a0, .string a1] w fun e w' => e = .returned (.bool r) ∧ Drawn0 w w' := by
  unfold strings_Contains.f at h
  by_cases hs : a1.data.toList.length = 1
  · rw [if_pos hs] at h
    obtain rfl := Option.some.inj h
    have e := one_byte hs
    generalize a1.data.toList.headD 0 = c at e ⊢
    subst e
    exact (Any.strings_Contains_one Tryz.l144 a0 c w).mono fun e w' ⟨he, hw⟩ => ⟨he, hw ▸ Drawn0.refl _⟩
  · rw [if_neg hs] at h; cases h
end Go.Proofs.YtcgoaipbfnhjhaaGreatDoor.Pr

-- Written by a program for this claim.
namespace Go.Proofs.YtcgoaipbfnhjhaaGreatDoor.Pr
open Go.RowKit Go.Proofs.YtcgoaipbfnhjhaaGreatDoorW.PrintWords Go.Proofs.YtcgoaipbfnhjhaaGreatDoorW.PrintLast Go.Proofs.YtcgoaipbfnhjhaaGreatDoorW.PrintMore
attribute [local go_sem] max2_int min2_int max_two min_two max_three min_three max_four min_four   -- for this text's walks alone
set_option linter.unusedVariables false
set_option linter.unusedSimpArgs false

/-! ### impl_interlaced: function 92 -/
def impl_interlaced.f (a0 : ByteArray) (a1 : Int) (a2 : Int) : Option (Bool) := (strings_IndexByte.f a0 a1).bind fun t117 => ((strings_LastIndexByte.f a0 a1).bind fun t118 => (if 0 ≤ (wrap64 (t117 + 1)) then (if (wrap64 (t117 + 1)) ≤ t118 then (if t118 ≤ (a0.size : Int) then ((strings_Count.f (a0.extract ((wrap64 (t117 + 1)) : Int).toNat (t118 : Int).toNat) (Utf8.encode (wrap32 (a2)))).bind fun t119 => (some (t119 == 1))) else (none)) else (none)) else (none)))
set_option maxHeartbeats 8000000 in
set_option maxRecDepth 100000 in
theorem impl_interlaced.calls (a0 : ByteArray) (a1 : Int) (a2 : Int) (r : Bool) (w : World) (h : impl_interlaced.f a0 a1 a2 = some r) :
    Calls Tryz.prog 92 #[.string a0, .int .u8 a1, .int .u8 a2] w fun e w' => e = .returned (.bool r) ∧ Drawn0 w w' := by
  have H : ((strings_IndexByte.f a0 a1).bind fun t117 => ((strings_LastIndexByte.f a0 a1).bind fun t118 => (if 0 ≤ (wrap64 (t117 + 1)) then (if (wrap64 (t117 + 1)) ≤ t118 then (if t118 ≤ (a0.size : Int) then ((strings_Count.f (a0.extract ((wrap64 (t117 + 1)) : Int).toNat (t118 : Int).toNat) (Utf8.encode (wrap32 (a2)))).bind fun t119 => (some (t119 == 1))) else (none)) else (none)) else (none)))) = some r := h
  clear h
  replace H := Option.bind_eq_some_iff.mp H
  obtain ⟨t117, A40, H⟩ := H
  replace H : ((strings_LastIndexByte.f a0 a1).bind fun t118 => (if 0 ≤ (wrap64 (t117 + 1)) then (if (wrap64 (t117 + 1)) ≤ t118 then (if t118 ≤ (a0.size : Int) then ((strings_Count.f (a0.extract ((wrap64 (t117 + 1)) : Int).toNat (t118 : Int).toNat) (Utf8.encode (wrap32 (a2)))).bind fun t119 => (some (t119 == 1))) else (none)) else (none)) else (none))) = some r := H
  have A4 := Aside0.mk A40
  clear A40
  replace H := Option.bind_eq_some_iff.mp H
  obtain ⟨t118, A50, H⟩ := H
  replace H : (if 0 ≤ (wrap64 (t117 + 1)) then (if (wrap64 (t117 + 1)) ≤ t118 then (if t118 ≤ (a0.size : Int) then ((strings_Count.f (a0.extract ((wrap64 (t117 + 1)) : Int).toNat (t118 : Int).toNat) (Utf8.encode (wrap32 (a2)))).bind fun t119 => (some (t119 == 1))) else (none)) else (none)) else (none)) = some r := H
  have A5 := Aside0.mk A50
  clear A50
  obtain ⟨ji6, hji6⟩ : ∃ j_ : Int, (wrap64 (t117 + 1)) = j_ := ⟨_, rfl⟩
  replace H : (if 0 ≤ (ji6) then (if (ji6) ≤ t118 then (if t118 ≤ (a0.size : Int) then ((strings_Count.f (a0.extract ((ji6) : Int).toNat (t118 : Int).toNat) (Utf8.encode (wrap32 (a2)))).bind fun t119 => (some (t119 == 1))) else (none)) else (none)) else (none)) = some r := by first | (rw [hji6] at H; exact H) | (simp only [hji6] at H ⊢; exact H)
  (try rw [hji6] at A4)
  (try rw [hji6] at A5)
  have hji6w : (IntKind.i64.wrap (t117 + 1)) = ji6 := (i64_w _).trans hji6
  by_cases c7 : 0 ≤ (ji6)
  · rw [if_pos c7] at H
    have c7b0 := eq_true c7
    have c7b1 : decide (0 ≤ (ji6)) = true := decide_eq_true c7
    clear c7
    by_cases c8 : (ji6) ≤ t118
    · rw [if_pos c8] at H
      have c8b0 := eq_true c8
      have c8b1 : decide ((ji6) ≤ t118) = true := decide_eq_true c8
      clear c8
      by_cases c9 : t118 ≤ (a0.size : Int)
      · rw [if_pos c9] at H
        have c9b0 := eq_true c9
        have c9b1 : decide (t118 ≤ (a0.size : Int)) = true := decide_eq_true c9
        clear c9
        replace H := Option.bind_eq_some_iff.mp H
        obtain ⟨t119, A100, H⟩ := H
        replace H : (some (t119 == 1)) = some r := H
        have A10 := Aside0.mk A100
        clear A100
        obtain rfl := Option.some.inj H
        go_enter Tryz.func92, Tryz.ntmps92
        go_wp2_with (first | ((with_reducible refine gate_callee (f := 85) rfl ?_); refine goesL_ (some 11) rfl rfl Tryz.func85 (by kernel_rfl) rfl #[.string a0, .int .u8 a1] rfl (by (try simp only [List.map_toArray, List.map_cons, List.map_nil]); first | done | rfl | (simp only [List.length_drop, List.length_take]; rfl)) ?_; (with_reducible refine (strings_IndexByte.calls a0 a1 t117 _ A4.out).mono ?_); rintro e w' ⟨rfl, ⟨nd, rfl⟩⟩; refine ⟨_, rfl, ?_⟩) | ((with_reducible refine gate_callee (f := 84) rfl ?_); refine goesL_ (some 15) rfl rfl Tryz.func84 (by kernel_rfl) rfl #[.string a0, .int .u8 a1] rfl (by (try simp only [List.map_toArray, List.map_cons, List.map_nil]); first | done | rfl | (simp only [List.length_drop, List.length_take]; rfl)) ?_; (with_reducible refine (strings_LastIndexByte.calls a0 a1 t118 _ A5.out).mono ?_); rintro e w' ⟨rfl, ⟨nd, rfl⟩⟩; refine ⟨_, rfl, ?_⟩) | ((with_reducible refine gate_callee (f := 66) rfl ?_); refine goesL_ (some 21) rfl rfl Tryz.func66 (by kernel_rfl) rfl #[.string (a0.extract ((ji6) : Int).toNat (t118 : Int).toNat), .string (Utf8.encode (wrap32 (a2)))] rfl (by (try simp only [List.map_toArray, List.map_cons, List.map_nil]); first | done | (simp only [hji6]; rfl) | rfl | (simp only [List.length_drop, List.length_take]; rfl)) ?_; (with_reducible refine (strings_Count.calls (a0.extract ((ji6) : Int).toNat (t118 : Int).toNat) (Utf8.encode (wrap32 (a2))) t119 _ A10.out).mono ?_); rintro e w' ⟨rfl, ⟨nd, rfl⟩⟩; refine ⟨_, rfl, ?_⟩))
        go_ret
        exact ⟨by first | rfl | (simp; done) | (simp only [← hji6] <;> (first | rfl | simp)) | (simp [*]; done), by repeat (first | exact Drawn0.refl _ | apply Drawn0.step)⟩
      · rw [if_neg c9] at H
        exact absurd H (by simp)
    · rw [if_neg c8] at H
      exact absurd H (by simp)
  · rw [if_neg c7] at H
    exact absurd H (by simp)

end Go.Proofs.YtcgoaipbfnhjhaaGreatDoor.Pr

/- What the program's interlacedWith computes: the letters that are interlaced with one. -/
namespace Go.Proofs.YtcgoaipbfnhjhaaGreatDoor.Pr
open Go.RowKit Go.Proofs.YtcgoaipbfnhjhaaGreatDoorW.PrintWords Go.Proofs.YtcgoaipbfnhjhaaGreatDoorW.PrintLast Go.Proofs.YtcgoaipbfnhjhaaGreatDoorW.PrintMore
set_option linter.unusedVariables false
set_option linter.unusedSimpArgs false

/-- Whether a letter is another one, and interlaced with it. -/
def withB (w : ByteArray) (a c : Int) : Bool := (c != a) && (impl_interlaced.f w a c).getD false
def okWith (w : ByteArray) (a : Int) : Bool := decide (w.size ≤ 16) && (M.abcL (w.size / 2)).all fun c => (impl_interlaced.f w a c).isSome
def impl_interlacedWith.f (a0 : ByteArray) (a1 : Int) : Option (ByteArray) := if okWith a0 a1 = true then some (strOfNums (M.lettP (withB a0 a1) 97 (a0.size / 2))) else none

set_option maxHeartbeats 4000000 in
theorem with_pred (w0 : ByteArray) (a : Int) (c : Int) (b : Bool) (hc : impl_interlaced.f w0 a c = some b) (B1 B2 : Nat) (W : World) (h1 : W.cell? ⟨B1, 0, none⟩ = some (.int .u8 a)) (h2 : W.cell? ⟨B2, 0, none⟩ = some (.string w0)) :
    Calls Tryz.prog 122 #[.int .u8 c, .pointer (some ⟨B1, 0, none⟩), .pointer (some ⟨B2, 0, none⟩)] W fun e w' => e = .returned (.bool ((c != a) && b)) ∧ Below W.heap.size W w' := by
  have HI := Aside0.mk (fun (W1 : World) => impl_interlaced.calls w0 a c b W1 hc)
  clear hc
  cases e : (c == a) with
  | true =>
    have e2 : (c != a) = false := by simpa using e
    go_enter Tryz.func122, Tryz.ntmps122
    go_wp2_with fail
    go_ret
    exact ⟨by rw [e2]; rfl, Below.refl _ _⟩
  | false =>
    have e2 : (c != a) = true := by simpa using e
    go_enter Tryz.func122, Tryz.ntmps122
    go_wp2_with (go_at_call 92; refine (HI.out _).mono ?_; rintro e w' ⟨rfl, ⟨nd, rfl⟩⟩)
    go_ret
    exact ⟨by rw [e2]; rfl, pw_below_drewN (Below.refl _ _) _⟩

theorem okWith_at {w : ByteArray} {a : Int} (h : okWith w a = true) : w.size ≤ 16 ∧ ∀ x : Int, 97 ≤ x → x < 97 + ((w.size / 2 : Nat) : Int) → ∃ b, impl_interlaced.f w a x = some b := by
  unfold okWith at h
  simp only [Bool.and_eq_true, decide_eq_true_eq, List.all_eq_true] at h
  exact ⟨h.1, fun x h1 h2 => Option.isSome_iff_exists.1 (h.2 x ((M.mem_abc _ x).2 ⟨h1, h2⟩))⟩

set_option maxHeartbeats 4000000 in
theorem impl_interlacedWith.calls (a0 : ByteArray) (a1 : Int) (r : ByteArray) (w : World) (h : impl_interlacedWith.f a0 a1 = some r) :
    Calls Tryz.prog 91 #[.string a0, .int .u8 a1] w fun e w' => e = .returned (.string r) ∧ Below w.heap.size w w' := by
  unfold impl_interlacedWith.f at h
  by_cases hk : okWith a0 a1 = true
  · rw [if_pos hk] at h
    obtain ⟨h16, hall⟩ := okWith_at hk
    obtain rfl := Option.some.inj h
    have eg : ∀ args w, (callFunc 122 args).run Tryz.prog w = .ok (.enter 122 args) w := enters_of Tryz.func122 (by kernel_rfl) rfl
    have hb0 : Below w.heap.size w ((w.alloc (.cells #[.string a0] 9)).alloc (.cells #[.int .u8 a1] 5)) := below_alloc (below_alloc (Below.refl _ _) _) _
    have hc1 : ((w.alloc (.cells #[.string a0] 9)).alloc (.cells #[.int .u8 a1] 5)).cell? ⟨w.heap.size, 0, none⟩ = some (.string a0) := by simp
    have hc2 : ((w.alloc (.cells #[.string a0] 9)).alloc (.cells #[.int .u8 a1] 5)).cell? ⟨w.heap.size + 1, 0, none⟩ = some (.int .u8 a1) := by
      have := (w.alloc (.cells #[.string a0] 9)).heap.size
      simp
    have hsz : w.heap.size + 1 < ((w.alloc (.cells #[.string a0] 9)).alloc (.cells #[.int .u8 a1] 5)).heap.size := by simp
    have hL := Aside0.mk (lettersWith_calls a0 (a0.size / 2) rfl (by omega) (withB a0 a1) 122 #[.pointer (some ⟨w.heap.size + 1, 0, none⟩), .pointer (some ⟨w.heap.size, 0, none⟩)] eg ((w.alloc (.cells #[.string a0] 9)).alloc (.cells #[.int .u8 a1] 5))
      (fun W2 x h1 h2 hb => by
        obtain ⟨b, hbx⟩ := hall x h1 h2
        have e : withB a0 a1 x = ((x != a1) && b) := by unfold withB; rw [hbx]; rfl
        rw [e]
        exact with_pred a0 a1 x b hbx (w.heap.size + 1) w.heap.size W2 ((hb.cell (p := ⟨w.heap.size + 1, 0, none⟩) hsz).trans hc2) ((hb.cell (p := ⟨w.heap.size, 0, none⟩) (show w.heap.size < _ by omega)).trans hc1)))
    generalize strOfNums (M.lettP (withB a0 a1) 97 (a0.size / 2)) = s at hL h
    have HB0 := Aside0.mk hb0
    clear h eg hc1 hc2 hall hb0
    go_enter Tryz.func91, Tryz.ntmps91
    go_wp2_with (go_at_call 82; refine hL.out.mono ?_; rintro e w' ⟨rfl, hb⟩)
    go_ret
    exact ⟨rfl, HB0.out.trans (hb.mono (by simp; omega))⟩
  · rw [if_neg hk] at h; cases h
end Go.Proofs.YtcgoaipbfnhjhaaGreatDoor.Pr

/- What the program's common computes: how many letters are interlaced with both. -/
namespace Go.Proofs.YtcgoaipbfnhjhaaGreatDoor.Pr
open Go.RowKit Go.Proofs.YtcgoaipbfnhjhaaGreatDoorW.PrintWords Go.Proofs.YtcgoaipbfnhjhaaGreatDoorW.PrintLast Go.Proofs.YtcgoaipbfnhjhaaGreatDoorW.PrintMore
set_option linter.unusedVariables false
set_option linter.unusedSimpArgs false

/-- Whether a letter is a third one, and interlaced with both. -/
def commB (w : ByteArray) (a b c : Int) : Bool := (c != a) && (c != b) && (impl_interlaced.f w a c).getD false && (impl_interlaced.f w b c).getD false
def impl_common.f (a0 : ByteArray) (a1 : Int) (a2 : Int) : Option (Int) := if okWith a0 a1 = true ∧ okWith a0 a2 = true then some ((M.lettP (commB a0 a1 a2) 97 (a0.size / 2)).length : Int) else none

set_option maxHeartbeats 1000000 in
theorem comm_pred (w0 : ByteArray) (a b : Int) (c : Int) (p q : Bool) (hp : impl_interlaced.f w0 a c = some p) (hq : impl_interlaced.f w0 b c = some q) (B1 B2 B3 : Nat) (W : World) (h1 : W.cell? ⟨B1, 0, none⟩ = some (.int .u8 a)) (h2 : W.cell? ⟨B2, 0, none⟩ = some (.int .u8 b)) (h3 : W.cell? ⟨B3, 0, none⟩ = some (.string w0)) :
    Calls Tryz.prog 129 #[.int .u8 c, .pointer (some ⟨B1, 0, none⟩), .pointer (some ⟨B2, 0, none⟩), .pointer (some ⟨B3, 0, none⟩)] W fun e w' => e = .returned (.bool ((c != a) && (c != b) && p && q)) ∧ Below W.heap.size W w' := by
  have HP := Aside0.mk (fun (W1 : World) => impl_interlaced.calls w0 a c p W1 hp)
  have HQ := Aside0.mk (fun (W1 : World) => impl_interlaced.calls w0 b c q W1 hq)
  clear hp hq
  cases e : (c == a) with
  | true =>
    have e2 : (c != a) = false := by simpa using e
    go_enter Tryz.func129, Tryz.ntmps129
    go_wp2_with fail
    go_ret
    exact ⟨by rw [e2]; rfl, Below.refl _ _⟩
  | false =>
    have e2 : (c != a) = true := by simpa using e
    cases f : (c == b) with
    | true =>
      have f2 : (c != b) = false := by simpa using f
      go_enter Tryz.func129, Tryz.ntmps129
      go_wp2_with fail
      go_ret
      exact ⟨by rw [e2, f2]; rfl, Below.refl _ _⟩
    | false =>
      have f2 : (c != b) = true := by simpa using f
      cases p with
      | false =>
        go_enter Tryz.func129, Tryz.ntmps129
        go_wp2_with (go_at_call 92; with_reducible refine (HP.out _).mono ?_; rintro e w' ⟨rfl, ⟨nd, rfl⟩⟩)
        go_ret
        exact ⟨by rw [e2, f2]; rfl, pw_below_drewN (Below.refl _ _) _⟩
      | true =>
        go_enter Tryz.func129, Tryz.ntmps129
        go_wp2_with (first | (go_at_call 92; with_reducible refine (HP.out _).mono ?_; rintro e w' ⟨rfl, ⟨nd, rfl⟩⟩) | (go_at_call 92; with_reducible refine (HQ.out _).mono ?_; rintro e w' ⟨rfl, ⟨nd2, rfl⟩⟩))
        go_ret
        exact ⟨by rw [e2, f2]; rfl, pw_below_drewN (Below.refl _ _) _⟩

theorem fresh_cell (W : World) (u : Value) (t : TypeId) : (W.alloc (.cells #[u] t)).cell? ⟨W.heap.size, 0, none⟩ = some u := by simp
theorem kept_cell (W : World) (o : Obj) {B : Nat} {v : Value} (hB : B < W.heap.size) (h : W.cell? ⟨B, 0, none⟩ = some v) : (W.alloc o).cell? ⟨B, 0, none⟩ = some v := ((below_alloc (Below.refl W.heap.size W) o).cell (p := ⟨B, 0, none⟩) hB).trans h
theorem strOf_size (l : List Int) : (strOfNums l).size = l.length := by
  unfold strOfNums
  show (List.toArray _).size = _
  rw [List.size_toArray, List.length_map]

set_option maxHeartbeats 4000000 in
theorem impl_common.calls (a0 : ByteArray) (a1 : Int) (a2 : Int) (r : Int) (w : World) (h : impl_common.f a0 a1 a2 = some r) :
    Calls Tryz.prog 112 #[.string a0, .int .u8 a1, .int .u8 a2] w fun e w' => e = .returned (.int .i64 r) ∧ Below w.heap.size w w' := by
  unfold impl_common.f at h
  by_cases hk : okWith a0 a1 = true ∧ okWith a0 a2 = true
  · rw [if_pos hk] at h
    obtain ⟨h16, hall⟩ := okWith_at hk.1
    obtain ⟨_, hall2⟩ := okWith_at hk.2
    obtain rfl := Option.some.inj h
    have eg : ∀ args w, (callFunc 129 args).run Tryz.prog w = .ok (.enter 129 args) w := enters_of Tryz.func129 (by kernel_rfl) rfl
    obtain ⟨W0, hW0⟩ : ∃ W0, W0 = ((w.alloc (.cells #[.string a0] 9)).alloc (.cells #[.int .u8 a1] 5)).alloc (.cells #[.int .u8 a2] 5) := ⟨_, rfl⟩
    have hb0 : Below w.heap.size w W0 := by rw [hW0]; exact below_alloc (below_alloc (below_alloc (Below.refl _ _) _) _) _
    have z1 : (w.alloc (.cells #[.string a0] 9)).heap.size = w.heap.size + 1 := by simp
    have z2 : ((w.alloc (.cells #[.string a0] 9)).alloc (.cells #[.int .u8 a1] 5)).heap.size = w.heap.size + 1 + 1 := by simp
    have hc1 : W0.cell? ⟨w.heap.size, 0, none⟩ = some (.string a0) := by rw [hW0]; exact kept_cell _ _ (by rw [z2]; omega) (kept_cell _ _ (by rw [z1]; omega) (fresh_cell _ _ _))
    have hc2 : W0.cell? ⟨w.heap.size + 1, 0, none⟩ = some (.int .u8 a1) := by rw [hW0, ← z1]; exact kept_cell _ _ (by rw [z2, z1]; omega) (fresh_cell _ _ _)
    have hc3 : W0.cell? ⟨w.heap.size + 1 + 1, 0, none⟩ = some (.int .u8 a2) := by rw [hW0, ← z2]; exact fresh_cell _ _ _
    have hsz : w.heap.size + 1 + 1 < W0.heap.size := by rw [hW0]; simp
    have hL := Aside0.mk (lettersWith_calls a0 (a0.size / 2) rfl (by omega) (commB a0 a1 a2) 129 #[.pointer (some ⟨w.heap.size + 1, 0, none⟩), .pointer (some ⟨w.heap.size + 1 + 1, 0, none⟩), .pointer (some ⟨w.heap.size, 0, none⟩)] eg W0
      (fun W2 x h1 h2 hb => by
        obtain ⟨b, hbx⟩ := hall x h1 h2
        obtain ⟨q, hqx⟩ := hall2 x h1 h2
        have e : commB a0 a1 a2 x = ((x != a1) && (x != a2) && b && q) := by unfold commB; rw [hbx, hqx]; rfl
        rw [e]
        exact comm_pred a0 a1 a2 x b q hbx hqx (w.heap.size + 1) (w.heap.size + 1 + 1) w.heap.size W2 ((hb.cell (p := ⟨w.heap.size + 1, 0, none⟩) (show w.heap.size + 1 < _ by omega)).trans hc2) ((hb.cell (p := ⟨w.heap.size + 1 + 1, 0, none⟩) hsz).trans hc3) ((hb.cell (p := ⟨w.heap.size, 0, none⟩) (show w.heap.size < _ by omega)).trans hc1)))
    have hn := strOf_size (M.lettP (commB a0 a1 a2) 97 (a0.size / 2))
    rw [← hn]
    generalize strOfNums (M.lettP (commB a0 a1 a2) 97 (a0.size / 2)) = s at hL h
    have HB0 := Aside0.mk hb0
    have hwz := hb0.size
    clear h eg hc1 hc2 hc3 hall hall2 hb0 hn hk
    clear z1 z2 hsz
    subst hW0
    go_enter Tryz.func112, Tryz.ntmps112
    go_wp2_with (go_at_call 82; refine hL.out.mono ?_; rintro e w' ⟨rfl, hb⟩)
    go_ret
    exact ⟨rfl, HB0.out.trans (hb.mono hwz)⟩
  · rw [if_neg hk] at h; cases h
end Go.Proofs.YtcgoaipbfnhjhaaGreatDoor.Pr

/- A row of one's own of which no cell is frozen, whatever its mark: a text's bytes, appended to one by one. -/
namespace Go.Proofs.YtcgoaipbfnhjhaaGreatDoor.Pr
open Go.RowKit Go.Proofs.YtcgoaipbfnhjhaaGreatDoorW.PrintWords Go.Proofs.YtcgoaipbfnhjhaaGreatDoorW.PrintLast Go.Proofs.YtcgoaipbfnhjhaaGreatDoorW.PrintMore
set_option linter.unusedVariables false
set_option linter.unusedSimpArgs false

/-- The row v of one's own holds xs; its mark touches none of its cells. -/
def OwnT (w : World) (base : Nat) (e : TypeId) (v : Value) (xs : List Value) : Prop :=
  ∃ g cap cur fz, v = .slice (some ⟨g, 0, none⟩) xs.length cap ∧ base ≤ g ∧ w.heap[g]? = some (.cells cur e fz) ∧ (fz.1 < fz.2 → cur.size ≤ fz.1) ∧ xs.length ≤ cap ∧ cap ≤ maxLen ∧ cur.size = cap ∧ cur.toList.take xs.length = xs
theorem OwnT.lt {w : World} {base : Nat} {e : TypeId} {v : Value} {xs : List Value} (h : OwnT w base e v xs) : ∃ g, v.ownBlock = some g ∧ base ≤ g ∧ g < w.heap.size := by
  obtain ⟨g, cap, cur, fz, rfl, hb, hg, _⟩ := h
  exact ⟨g, rfl, hb, (Array.getElem?_eq_some_iff.1 hg).1⟩
theorem OwnT.below {w w' : World} {base : Nat} {e : TypeId} {v : Value} {xs : List Value} (h : OwnT w base e v xs) (hb : Below w.heap.size w w') : OwnT w' base e v xs := by
  obtain ⟨g, cap, cur, fz, hv, hbg, hg, rest⟩ := h
  exact ⟨g, cap, cur, fz, hv, hbg, (hb.block g (Array.getElem?_eq_some_iff.1 hg).1).trans hg, rest⟩
theorem OwnT.cell {w : World} {base : Nat} {e : TypeId} {xs : List Value} {g n cap : Nat} (h : OwnT w base e (.slice (some ⟨g, 0, none⟩) n cap) xs) (j : Nat) (u : Value) (hu : xs[j]? = some u) : w.cell? ⟨g, j, none⟩ = some u := by
  obtain ⟨g', cap', cur, fz, hv, hbg, hg, hfz, hn, hm, hc, ht⟩ := h
  simp only [Value.slice.injEq, Option.some.injEq, Addr.mk.injEq] at hv
  obtain ⟨⟨rfl, _, _⟩, _, _⟩ := hv
  rw [← ht, List.getElem?_take] at hu
  split at hu
  · simp only [World.cell?, hg]
    simpa using hu
  · cases hu
theorem bytes_own (W : World) (e : TypeId) (s : ByteArray) (base : Nat) (hb : base ≤ W.heap.size) (hs : s.size ≤ 1000000) : OwnT (Lib.bytesWorld W e s) base e (.slice (some ⟨W.heap.size, 0, none⟩) s.size (grownCap W s.size 0 e)) (encs (fun (x : Int) => Value.int .u8 x) (bytesOf s)) := by
  have hlen := bytesOf_length s
  have hge := grownCap_ge W s.size 0 e
  have hl : (encs (fun (x : Int) => Value.int .u8 x) (bytesOf s)).length = s.size := by rw [encs_length, hlen]
  have hbs : (Lib.bytesCells W e s).size = grownCap W s.size 0 e := by
    unfold Lib.bytesCells
    rw [Array.size_append, Array.size_map, Array.size_replicate]
    have : s.data.size = s.size := rfl
    omega
  refine ⟨W.heap.size, grownCap W s.size 0 e, _, _, by rw [hl], hb, Lib.bytesWorld_at_new W e s, fun _ => Nat.le_refl _, by omega, grownCap_le_maxLen W s.size 0 e (by simp only [maxLen]; omega), hbs, ?_⟩
  rw [hl]
  unfold Lib.bytesCells
  rw [Array.toList_append, List.take_left' (by rw [Array.length_toList, Array.size_map]; rfl)]
  simp [encs, bytesOf]

/-- One cell more. -/
theorem append_tail {P : Program} (w : World) (base : Nat) (t ty e : TypeId) (i : TypeInfo) (z : Value) (ht : P.underlying t = some (.slice e)) (hi : P.info? e = some i) (hz : i.zero = some z) (hsize : i.size = 1) (hby : i.bytes = 1) (hzs : z.cells.size = 1)
    (v : Value) (xs : List Value) (hown : OwnT w base e v xs) (a : Addr) (c : Nat) (u : Value) (hu : w.cell? a = some u) (h1 : u.oneCell' = true) (hl : xs.length ≤ 1000000) (hbase : base ≤ w.heap.size) :
    ∃ v' w', (Builtin.append_ #[t, t] ty #[v, .slice (some a) 1 c]).run P w = .ok v' w' ∧ OwnT w' base e v' (xs ++ [u]) ∧ w.grownBy w' v.ownBlock := by
  have hn0 : ∀ j u', [u][j]? = some u' → w.cell? (a.add j) = some u' := by
    intro j u' hj
    match j, hj with
    | 0, hj =>
      injection hj with hj
      subst hj
      have : a.add 0 = a := by unfold Addr.add; split <;> simp_all
      rw [this]; exact hu
    | j + 1, hj => simp at hj
  obtain ⟨g, cap, cur, fz, rfl, hbg, hg, hfz, hn, hm, hc, htk⟩ := hown
  by_cases hroom : xs.length + 1 ≤ cap
  · have hf := run_firstCells_some (P := P) w i.size 1 a 1 c [u] (by rw [hsize]; rfl) hn0
    have hlt : xs.length < cur.size := by omega
    have hadd : (⟨g, xs.length, none⟩ : Addr).add 0 = ⟨g, xs.length, none⟩ := by unfold Addr.add; split <;> simp_all
    have hcell : w.cell? ⟨g, xs.length, none⟩ = some cur[xs.length] := by simp [World.cell?, hg, hlt]
    have hfro : w.frozen? ⟨g, xs.length, none⟩ = false := by
      obtain ⟨lo, hi'⟩ := fz
      simp only [World.frozen?, hg, Bool.and_eq_false_iff, decide_eq_false_iff_not]
      simp only at hfz
      by_cases h : lo < hi'
      · left
        have := hfz h
        omega
      · omega
    have hst : (storeCells ⟨g, xs.length, none⟩ [u] 0).run P w = .ok () (w.setRow g (cur.setIfInBounds xs.length u)) := by
      simp only [storeCells, Sem.run_bind, hadd]
      rw [run_store P w _ u _ h1, hcell]
      simp [hfro, setCell_eq_setRow w g xs.length cur e fz u hg, Result.andThen]
    refine ⟨.slice (some ⟨g, 0, none⟩) (xs.length + 1) cap, w.setRow g (cur.setIfInBounds xs.length u), ?_, ⟨g, cap, _, fz, by simp, hbg, setRow_heap w g cur _ e _ hg, ?_, by simpa using hroom, hm, by simpa using hc, ?_⟩, ⟨rfl, rfl, rfl, by simp, fun k _ hk => setRow_other w g k _ (fun e => hk (by simp [Value.ownBlock, e]))⟩⟩
    · simp [Builtin.append_, run_underlying ht, sizeOf, typeInfo, hi, hsize, Builtin.lenOf, hroom, hf, Addr.add_lit, hst]
      rw [hsize] at hf
      rw [hf]
      simp only [Result.andThen]
      rw [hst]
    · intro h
      rw [Array.size_setIfInBounds]
      exact hfz h
    · have hl2 : (xs ++ [u]).length = xs.length + 1 := by simp
      rw [hl2, Array.toList_setIfInBounds]
      have e1 : (cur.toList.set xs.length u).take (xs.length + 1) = cur.toList.take xs.length ++ [u] := by
        rw [List.take_add_one, List.take_set_of_le (Nat.le_refl _), List.getElem?_set_self (by rw [Array.length_toList]; exact hlt)]
        rfl
      rw [e1, htk]
  · have holds : ∀ j u', xs[j]? = some u' → w.cell? ((⟨g, 0, none⟩ : Addr).add j) = some u' := by
      intro j u' hj
      have hadd : (⟨g, 0, none⟩ : Addr).add j = ⟨g, j, none⟩ := by unfold Addr.add; split <;> simp_all
      rw [hadd]
      exact OwnT.cell (base := base) (n := xs.length) (cap := cap) ⟨g, cap, cur, fz, rfl, hbg, hg, hfz, hn, hm, hc, htk⟩ j u' hj
    have hr := run_append_grow (P := P) w t ty e i z ht hi hz ⟨g, 0, none⟩ xs.length cap xs (by rw [hsize]; omega) holds a 1 c [u] (by rw [hsize]; rfl) hn0 (by omega) (by omega) (growslice_fits (by omega) (by rw [hby]; omega))
    have hge := grownCap_ge w (xs.length + 1) cap e
    have hcm2 : grownCap w (xs.length + 1) cap e ≤ maxLen := grownCap_le_maxLen w (xs.length + 1) cap e (by simp only [maxLen]; omega)
    refine ⟨_, _, hr, ⟨w.heap.size, _, _, (0, 0), by simp, hbase, heap_alloc_new w.drew _, fun h => absurd h (by simp), by simpa using hge, hcm2, ?_, ?_⟩, ⟨rfl, rfl, rfl, by simp, fun k hk _ => heap_alloc_old w.drew _ hk⟩⟩
    · simp only [Array.size_append, List.size_toArray, size_zeroCells, hzs]
      simp only [List.length_singleton]
      omega
    · simp only [Array.toList_append, List.append_assoc]
      rw [← List.append_assoc]
      exact List.take_left

theorem wp_append_tail {P : Program} {ops : Array Oper} {rest : List Oper} {o : Oper} {a : Act} {Q : Exit → Act → World → Prop} {w0 W : World} (base : Nat) (hgd : o.guard = none) (s x : Operand) (t e : TypeId) (z : Value)
    (ho : o.op = .call { callee := .builtin .append, args := #[s, x], argTypes := #[t, t] }) (ht : P.underlying t = some (.slice e)) (hinfo : (P.info? e).map (fun i => (i.zero, i.size, i.bytes)) = some (some z, 1, 1)) (hzs : z.cells.size = 1)
    (v : Value) (xs : List Value) (u : Value) (hs : a.eval s = v) (hx : a.eval x = .slice (some ⟨W.heap.size, 0, none⟩) 1 1) (h1 : u.oneCell' = true)
    (HO : OwnT W base e v xs) (HB : Below base w0 W) (hbase : base ≤ W.heap.size) (hl : xs.length ≤ 1000000)
    (h : ∀ v1 w1, OwnT w1 base e v1 (xs ++ [u]) → Below base w0 w1 → wpList P ops Q rest (a.put o.dst v1) w1) : wpList P ops Q (o :: rest) a (W.alloc (.cells #[u] e)) := by
  obtain ⟨i0, hi, hzz⟩ := Option.map_eq_some_iff.1 hinfo
  simp only [Prod.mk.injEq] at hzz
  obtain ⟨hz0, hz1, hz2⟩ := hzz
  have hal : Below W.heap.size W (W.alloc (.cells #[u] e)) := below_alloc (Below.refl _ _) _
  have hu : (W.alloc (.cells #[u] e)).cell? ⟨W.heap.size, 0, none⟩ = some u := by simp
  refine wpList_plain hgd fun K hK => ?_
  obtain ⟨g, hg1, hg2, hg3⟩ := HO.lt
  obtain ⟨v', w', hr, h2, h3⟩ := append_tail (P := P) (W.alloc (.cells #[u] e)) base t o.type e i0 z ht hi hz0 hz1 hz2 hzs v xs (HO.below hal) ⟨W.heap.size, 0, none⟩ 1 u hu h1 hl (Nat.le_trans hbase hal.size)
  unfold Oper.wp execOp
  simp only [ho, resolve, invoke, builtin, Sem.run_bind, Sem.run_pure, Result.andThen_ok, List.map_toArray, List.map_cons, List.map_nil, hs, hx, hr]
  exact hK _ _ (h v' w' h2 ((HB.trans (hal.mono hbase)).grown h3 (Nat.le_trans hbase hal.size) (fun k hk => by rw [hg1] at hk; injection hk with hk; omega)))
/-- The text that such a row is. -/
theorem tail_string {P : Program} {w : World} {base : Nat} {src dst e e' : TypeId} {v : Value} {xs : List Int} (hs : P.underlying src = some (.slice e)) (he : P.underlying e = some (.int .u8)) (hd : P.underlying dst = some .string)
    (h : OwnT w base e' v (encs (fun (x : Int) => Value.int .u8 x) xs)) : (convert src dst v).run P w = .ok (.string (strOfNums xs)) w := by
  have h0 := h
  obtain ⟨g, cap, cur, fz, rfl, hbg, hg, rest⟩ := h
  have hl : (encs (fun (x : Int) => Value.int .u8 x) xs).length = xs.length := encs_length ..
  rw [hl] at h0 ⊢
  refine run_convert_bytes_arg w src e hs he g 0 xs.length cap xs rfl (fun i hi => ?_) dst hd
  have hc := OwnT.cell h0 i (.int .u8 (xs.getD i 0)) (by simp [encs, List.getElem?_eq_getElem hi, List.getD_eq_getElem?_getD])
  rw [Nat.zero_add]
  exact hc
end Go.Proofs.YtcgoaipbfnhjhaaGreatDoor.Pr

/- A row of one's own that begins somewhere in its block: cut at its front, and appended to. -/
namespace Go.Proofs.YtcgoaipbfnhjhaaGreatDoor.Pr
open Go.RowKit Go.Proofs.YtcgoaipbfnhjhaaGreatDoorW.PrintWords Go.Proofs.YtcgoaipbfnhjhaaGreatDoorW.PrintLast Go.Proofs.YtcgoaipbfnhjhaaGreatDoorW.PrintMore
set_option linter.unusedVariables false
set_option linter.unusedSimpArgs false

/-- The row v of one's own, in block g from cell off on, holds xs; its mark touches none of its cells. -/
def OwnO (w : World) (base : Nat) (e : TypeId) (v : Value) (xs : List Value) : Prop :=
  ∃ g off cap cur fz, v = .slice (some ⟨g, off, none⟩) xs.length cap ∧ base ≤ g ∧ w.heap[g]? = some (.cells cur e fz) ∧ (fz.1 < fz.2 → cur.size ≤ fz.1) ∧ xs.length ≤ cap ∧ cap ≤ maxLen ∧ off + cap ≤ cur.size ∧ (cur.toList.drop off).take xs.length = xs
theorem OwnO.lt {w : World} {base : Nat} {e : TypeId} {v : Value} {xs : List Value} (h : OwnO w base e v xs) : ∃ g, v.ownBlock = some g ∧ base ≤ g ∧ g < w.heap.size := by
  obtain ⟨g, off, cap, cur, fz, rfl, hb, hg, _⟩ := h
  exact ⟨g, rfl, hb, (Array.getElem?_eq_some_iff.1 hg).1⟩
theorem OwnO.same {w w' : World} {base : Nat} {e : TypeId} {v : Value} {xs : List Value} (h : OwnO w base e v xs) (hb : ∀ g, v.ownBlock = some g → w'.heap[g]? = w.heap[g]?) : OwnO w' base e v xs := by
  obtain ⟨g, off, cap, cur, fz, hv, hbg, hg, rest⟩ := h
  refine ⟨g, off, cap, cur, fz, hv, hbg, (hb g (by rw [hv]; rfl)).trans hg, rest⟩
theorem OwnO.below {w w' : World} {base : Nat} {e : TypeId} {v : Value} {xs : List Value} (h : OwnO w base e v xs) (hb : Below w.heap.size w w') : OwnO w' base e v xs := by
  obtain ⟨g, h1, h2, h3⟩ := h.lt
  exact h.same fun g' e => by
    rw [h1] at e
    injection e with e
    exact hb.block g' (by omega)
theorem add_off (g off n : Nat) : (⟨g, off, none⟩ : Addr).add n = ⟨g, off + n, none⟩ := by
  unfold Addr.add
  split
  · simp_all
  · rfl
theorem OwnO.cell {w : World} {base : Nat} {e : TypeId} {xs : List Value} {g off n cap : Nat} (h : OwnO w base e (.slice (some ⟨g, off, none⟩) n cap) xs) (j : Nat) (u : Value) (hu : xs[j]? = some u) : w.cell? ⟨g, off + j, none⟩ = some u := by
  obtain ⟨g', off', cap', cur, fz, hv, hbg, hg, hfz, hn, hm, hc, ht⟩ := h
  simp only [Value.slice.injEq, Option.some.injEq, Addr.mk.injEq] at hv
  obtain ⟨⟨rfl, rfl, _⟩, _, _⟩ := hv
  rw [← ht, List.getElem?_take] at hu
  split at hu
  · rw [List.getElem?_drop] at hu
    simp only [World.cell?, hg]
    simpa using hu
  · cases hu
/-- The first cell cut away. -/
theorem OwnO.rest {w : World} {base : Nat} {e : TypeId} {x : Value} {xs : List Value} {g off n cap : Nat} (h : OwnO w base e (.slice (some ⟨g, off, none⟩) n cap) (x :: xs)) : OwnO w base e (.slice (if cap = 1 then some ⟨g, off, none⟩ else some ⟨g, off + 1, none⟩) (n - 1) (cap - 1)) xs := by
  obtain ⟨g', off', cap', cur, fz, hv, hbg, hg, hfz, hn, hm, hc, ht⟩ := h
  simp only [Value.slice.injEq, Option.some.injEq, Addr.mk.injEq] at hv
  obtain ⟨⟨rfl, rfl, _⟩, rfl, rfl⟩ := hv
  rw [List.length_cons] at hn ht ⊢
  by_cases h1 : cap = 1
  · subst h1
    have h0 : xs = [] := List.eq_nil_of_length_eq_zero (by omega)
    subst h0
    exact ⟨g, off, 0, cur, fz, by simp, hbg, hg, hfz, by simp, by omega, by omega, by simp⟩
  · refine ⟨g, off + 1, cap - 1, cur, fz, by rw [if_neg h1]; simp, hbg, hg, hfz, by omega, by omega, by omega, ?_⟩
    have hlt : off < cur.toList.length := by rw [Array.length_toList]; omega
    rw [List.drop_eq_getElem_cons hlt, List.take_succ_cons] at ht
    injection ht
/-- One cell more. -/
theorem append_off {P : Program} (w : World) (base : Nat) (t ty e : TypeId) (i : TypeInfo) (z : Value) (ht : P.underlying t = some (.slice e)) (hi : P.info? e = some i) (hz : i.zero = some z) (hsize : i.size = 1) (hby : i.bytes ≤ 8) (hzs : z.cells.size = 1)
    (v : Value) (xs : List Value) (hown : OwnO w base e v xs) (a : Addr) (c : Nat) (u : Value) (hu : w.cell? a = some u) (h1 : u.oneCell' = true) (hl : xs.length ≤ 1000000) (hbase : base ≤ w.heap.size) :
    ∃ v' w', (Builtin.append_ #[t, t] ty #[v, .slice (some a) 1 c]).run P w = .ok v' w' ∧ OwnO w' base e v' (xs ++ [u]) ∧ w.grownBy w' v.ownBlock ∧ (v'.ownBlock = v.ownBlock ∨ v'.ownBlock = some w.heap.size) := by
  have hn0 : ∀ j u', [u][j]? = some u' → w.cell? (a.add j) = some u' := by
    intro j u' hj
    match j, hj with
    | 0, hj =>
      injection hj with hj
      subst hj
      have : a.add 0 = a := by unfold Addr.add; split <;> simp_all
      rw [this]; exact hu
    | j + 1, hj => simp at hj
  obtain ⟨g, off, cap, cur, fz, rfl, hbg, hg, hfz, hn, hm, hc, htk⟩ := hown
  by_cases hroom : xs.length + 1 ≤ cap
  · have hf := run_firstCells_some (P := P) w i.size 1 a 1 c [u] (by rw [hsize]; rfl) hn0
    have hlt : off + xs.length < cur.size := by omega
    have hadd : (⟨g, off + xs.length, none⟩ : Addr).add 0 = ⟨g, off + xs.length, none⟩ := by unfold Addr.add; split <;> simp_all
    have hadd2 : (⟨g, off, none⟩ : Addr).add (xs.length * 1) = ⟨g, off + xs.length, none⟩ := by rw [Nat.mul_one, add_off]
    have hadd3 : (⟨g, off, none⟩ : Addr).add xs.length = ⟨g, off + xs.length, none⟩ := add_off _ _ _
    have hcell : w.cell? ⟨g, off + xs.length, none⟩ = some cur[off + xs.length] := by simp [World.cell?, hg, hlt]
    have hfro : w.frozen? ⟨g, off + xs.length, none⟩ = false := by
      obtain ⟨lo, hi'⟩ := fz
      simp only [World.frozen?, hg, Bool.and_eq_false_iff, decide_eq_false_iff_not]
      simp only at hfz
      by_cases h : lo < hi'
      · left
        have := hfz h
        omega
      · omega
    have hst : (storeCells ⟨g, off + xs.length, none⟩ [u] 0).run P w = .ok () (w.setRow g (cur.setIfInBounds (off + xs.length) u)) := by
      simp only [storeCells, Sem.run_bind, hadd]
      rw [run_store P w _ u _ h1, hcell]
      simp [hfro, setCell_eq_setRow w g (off + xs.length) cur e fz u hg, Result.andThen]
    refine ⟨.slice (some ⟨g, off, none⟩) (xs.length + 1) cap, w.setRow g (cur.setIfInBounds (off + xs.length) u), ?_, ⟨g, off, cap, _, fz, by simp, hbg, setRow_heap w g cur _ e _ hg, ?_, by simpa using hroom, hm, by simpa using hc, ?_⟩, ⟨rfl, rfl, rfl, by simp, fun k _ hk => setRow_other w g k _ (fun e => hk (by simp [Value.ownBlock, e]))⟩, .inl rfl⟩
    · simp [Builtin.append_, run_underlying ht, sizeOf, typeInfo, hi, hsize, Builtin.lenOf, hroom, hf, hadd2, hadd3, hst]
      rw [hsize] at hf
      rw [hf]
      simp only [Result.andThen]
      rw [hst]
    · intro h
      rw [Array.size_setIfInBounds]
      exact hfz h
    · have hl2 : (xs ++ [u]).length = xs.length + 1 := by simp
      rw [hl2, Array.toList_setIfInBounds]
      have e0 : (cur.toList.set (off + xs.length) u).drop off = (cur.toList.drop off).set xs.length u := by
        rw [List.drop_set, if_neg (by omega)]
        congr 1
        omega
      have e1 : ((cur.toList.drop off).set xs.length u).take (xs.length + 1) = (cur.toList.drop off).take xs.length ++ [u] := by
        rw [List.take_add_one, List.take_set_of_le (Nat.le_refl _), List.getElem?_set_self (by have := Array.length_toList (xs := cur); rw [List.length_drop]; omega)]
        rfl
      rw [e0, e1, htk]
  · have holds : ∀ j u', xs[j]? = some u' → w.cell? ((⟨g, off, none⟩ : Addr).add j) = some u' := by
      intro j u' hj
      rw [add_off]
      exact OwnO.cell (base := base) (n := xs.length) (cap := cap) ⟨g, off, cap, cur, fz, rfl, hbg, hg, hfz, hn, hm, hc, htk⟩ j u' hj
    have hr := run_append_grow (P := P) w t ty e i z ht hi hz ⟨g, off, none⟩ xs.length cap xs (by rw [hsize]; omega) holds a 1 c [u] (by rw [hsize]; rfl) hn0 (by omega) (by omega) (growslice_fits (by omega) (by have := Nat.mul_le_mul (show xs.length + 1 ≤ 1000001 by omega) hby; omega))
    have hge := grownCap_ge w (xs.length + 1) cap e
    have hcm2 : grownCap w (xs.length + 1) cap e ≤ maxLen := grownCap_le_maxLen w (xs.length + 1) cap e (by simp only [maxLen]; omega)
    refine ⟨_, _, hr, ⟨w.heap.size, 0, _, _, (0, 0), by simp, hbase, heap_alloc_new w.drew _, fun h => absurd h (by simp), by simpa using hge, hcm2, ?_, ?_⟩, ⟨rfl, rfl, rfl, by simp, fun k hk _ => heap_alloc_old w.drew _ hk⟩, .inr rfl⟩
    · simp only [Array.size_append, List.size_toArray, size_zeroCells, hzs]
      simp only [List.length_singleton]
      omega
    · simp only [Array.toList_append, List.append_assoc, List.drop_zero]
      rw [← List.append_assoc]
      exact List.take_left

theorem wp_append_off {P : Program} {ops : Array Oper} {rest : List Oper} {o : Oper} {a : Act} {Q : Exit → Act → World → Prop} {w0 W : World} (base : Nat) (hgd : o.guard = none) (s x : Operand) (t e : TypeId) (z : Value) (bz : Nat) (hbz : bz ≤ 8)
    (ho : o.op = .call { callee := .builtin .append, args := #[s, x], argTypes := #[t, t] }) (ht : P.underlying t = some (.slice e)) (hinfo : (P.info? e).map (fun i => (i.zero, i.size, i.bytes)) = some (some z, 1, bz)) (hzs : z.cells.size = 1)
    (v : Value) (xs : List Value) (u : Value) (hs : a.eval s = v) (hx : a.eval x = .slice (some ⟨W.heap.size, 0, none⟩) 1 1) (h1 : u.oneCell' = true)
    (HO : OwnO W base e v xs) (HB : Below base w0 W) (hbase : base ≤ W.heap.size) (hl : xs.length ≤ 1000000)
    (h : ∀ v1 w1, OwnO w1 base e v1 (xs ++ [u]) → Below base w0 w1 → (W.alloc (.cells #[u] e)).grownBy w1 v.ownBlock → (v1.ownBlock = v.ownBlock ∨ ∃ g, v1.ownBlock = some g ∧ W.heap.size ≤ g) → wpList P ops Q rest (a.put o.dst v1) w1) : wpList P ops Q (o :: rest) a (W.alloc (.cells #[u] e)) := by
  obtain ⟨i0, hi, hzz⟩ := Option.map_eq_some_iff.1 hinfo
  simp only [Prod.mk.injEq] at hzz
  obtain ⟨hz0, hz1, hz2⟩ := hzz
  have hal : Below W.heap.size W (W.alloc (.cells #[u] e)) := below_alloc (Below.refl _ _) _
  have hu : (W.alloc (.cells #[u] e)).cell? ⟨W.heap.size, 0, none⟩ = some u := by simp
  refine wpList_plain hgd fun K hK => ?_
  obtain ⟨g, hg1, hg2, hg3⟩ := HO.lt
  obtain ⟨v', w', hr, h2, h3, h4⟩ := append_off (P := P) (W.alloc (.cells #[u] e)) base t o.type e i0 z ht hi hz0 hz1 (by omega) hzs v xs (HO.below hal) ⟨W.heap.size, 0, none⟩ 1 u hu h1 hl (Nat.le_trans hbase hal.size)
  unfold Oper.wp execOp
  simp only [ho, resolve, invoke, builtin, Sem.run_bind, Sem.run_pure, Result.andThen_ok, List.map_toArray, List.map_cons, List.map_nil, hs, hx, hr]
  refine hK _ _ (h v' w' h2 ((HB.trans (hal.mono hbase)).grown h3 (Nat.le_trans hbase hal.size) (fun k hk => by rw [hg1] at hk; injection hk with hk; omega)) h3 ?_)
  rcases h4 with h4 | h4
  · exact .inl h4
  · exact .inr ⟨_, h4, hal.size⟩
end Go.Proofs.YtcgoaipbfnhjhaaGreatDoor.Pr

/- A search that puts letters into two halves finds a way just if there is one. Plain lists, no program. -/
namespace Go.Proofs.YtcgoaipbfnhjhaaGreatDoor.M
set_option linter.unusedVariables false
set_option linter.unusedSimpArgs false

def gtH (h : List Int) (j : Nat) : Int := h.getD j 0
theorem gt_set (h : List Int) (k : Nat) (v : Int) (hk : k < h.length) (j : Nat) : gtH (h.set k v) j = if j = k then v else gtH h j := by
  unfold gtH
  rw [List.getD_eq_getElem?_getD, List.getD_eq_getElem?_getD, List.getElem?_set]
  by_cases e : j = k
  · subst e; simp [hk]
  · rw [if_neg (fun e2 => e e2.symm), if_neg e]
theorem gt_out (h : List Int) (j : Nat) (hj : h.length ≤ j) : gtH h j = 0 := by
  unfold gtH
  rw [List.getD_eq_getElem?_getD, List.getElem?_eq_none hj]
  rfl
theorem count_set0 (h : List Int) (k : Nat) (v : Int) (hk : k < h.length) (h0 : gtH h k = 0) (hv : v ≠ 0) : (h.set k v).count 0 + 1 = h.count 0 := by
  have e : h[k] = 0 := by
    unfold gtH at h0
    rw [List.getD_eq_getElem?_getD, List.getElem?_eq_getElem hk] at h0
    simpa using h0
  have hp : 0 < h.count 0 := List.count_pos_iff.2 (e ▸ List.getElem_mem hk)
  rw [List.count_set hk, e]
  simp [hv]
  omega

section
variable (n : Nat) (E P : Nat → Nat → Bool)
def sgH (i k : Nat) : Int := if P i k = true then -1 else 1
def ValidH (s : Nat → Int) : Prop := (∀ j, s j = 1 ∨ s j = -1) ∧ ∀ a b, a < n → b < n → a ≠ b → E a b = true → s b = s a * sgH P a b
def ConH (h : List Int) (j : Nat) : Prop := ∀ k, k < n → k ≠ j → E j k = true → gtH h k = gtH h j * sgH P j k
def ClosedH (h : List Int) : Prop := ∀ j, j < n → gtH h j ≠ 0 → ConH n E P h j
def PMH (h : List Int) : Prop := ∀ j, gtH h j = 0 ∨ gtH h j = 1 ∨ gtH h j = -1
structure HInv (H0 h : List Int) (ln : List Nat) : Prop where
  len : h.length = n
  pm : PMH h
  old : ∀ j, gtH H0 j ≠ 0 → gtH h j = gtH H0 j
  inl : ∀ i ∈ ln, i < n ∧ gtH h i ≠ 0 ∧ gtH H0 i = 0
  con : ∀ j, j < n → gtH h j ≠ 0 → j ∈ ln ∨ ConH n E P h j
  sgn : ∀ s, ValidH n E P s → ∃ c : Int, (c = 1 ∨ c = -1) ∧ ∀ j, j < n → gtH H0 j = 0 → gtH h j ≠ 0 → gtH h j = c * s j
  room : h.count 0 + ln.length ≤ n
end
theorem sg_pm (P : Nat → Nat → Bool) (i k : Nat) : sgH P i k = 1 ∨ sgH P i k = -1 := by
  unfold sgH
  split <;> simp
theorem pm_mul {a b : Int} (ha : a = 1 ∨ a = -1) (hb : b = 1 ∨ b = -1) : a * b = 1 ∨ a * b = -1 := by
  rcases ha with rfl | rfl <;> rcases hb with rfl | rfl <;> simp

theorem con_set {n : Nat} {E P : Nat → Nat → Bool} {h : List Int} {k : Nat} {v : Int} (hk : k < h.length) (h0 : gtH h k = 0) {j : Nat} (hj : gtH h j ≠ 0) (hc : ConH n E P h j) (hkn : k < n) : ConH n E P (h.set k v) j := by
  intro q hq hqj he
  have e := hc q hq hqj he
  have hjk : j ≠ k := fun e2 => hj (e2 ▸ h0)
  have hsp := sg_pm P j q
  have hne : gtH h q ≠ 0 := by
    rw [e]
    rcases hsp with h | h <;> rw [h] <;> omega
  have hqk : q ≠ k := fun e2 => hne (e2 ▸ h0)
  rw [gt_set h k v hk, gt_set h k v hk, if_neg hqk, if_neg hjk]
  exact e

section
variable {n : Nat} {E P : Nat → Nat → Bool}
variable {RS : Nat → Nat → Nat → List Int → List Nat → Bool → Prop} {RB : Nat → List Int → List Nat → Bool → Prop} {RO : Nat → List Int → Bool → Prop}

theorem scan_ok (symE : ∀ a b, a < n → b < n → E a b = E b a) (symP : ∀ a b, a < n → b < n → P a b = P b a)
    (s_end : ∀ f i h rest r, h.length = n → RB f h rest r → RS f i n h (i :: rest) r)
    (s_skip : ∀ f i k h ln r, i < n → k < n → h.length = n → PMH h → (k = i ∨ E i k = false) → RS f i (k + 1) h ln r → RS f i k h ln r)
    (s_new : ∀ f i k h ln r, i < n → k < n → h.length = n → PMH h → ln.length ≤ n → k ≠ i → E i k = true → gtH h k = 0 → RS f i (k + 1) (h.set k (gtH h i * sgH P i k)) (ln ++ [k]) r → RS f i k h ln r)
    (s_bad : ∀ f i k h ln, i < n → k < n → h.length = n → PMH h → k ≠ i → E i k = true → gtH h k ≠ 0 → gtH h k = -(gtH h i * sgH P i k) → RS f i k h ln false)
    (s_fit : ∀ f i k h ln r, i < n → k < n → h.length = n → PMH h → k ≠ i → E i k = true → gtH h k ≠ 0 → gtH h k ≠ -(gtH h i * sgH P i k) → RS f i (k + 1) h ln r → RS f i k h ln r)
    (f i : Nat) (H0 : List Int) (hcl : ClosedH n E P H0) :
    ∀ (d k : Nat) (h : List Int) (rest : List Nat), k + d = n → HInv n E P H0 h (i :: rest) → (∀ q, q < k → q ≠ i → E i q = true → gtH h q = gtH h i * sgH P i q) →
      (∃ h' rest', HInv n E P H0 h' (i :: rest') ∧ ConH n E P h' i ∧ h'.count 0 + rest'.length = h.count 0 + rest.length ∧ (∀ j, gtH h j ≠ 0 → gtH h' j = gtH h j) ∧ ∀ r, RB f h' rest' r → RS f i k h (i :: rest) r)
      ∨ ((¬ ∃ s, ValidH n E P s) ∧ RS f i k h (i :: rest) false)
  | 0, k, h, rest, hk, hi, hd => by
    obtain rfl : k = n := by omega
    exact .inl ⟨h, rest, hi, fun q hq h1 h2 => hd q hq h1 h2, rfl, fun _ _ => rfl, fun r hr => s_end f i h rest r hi.len hr⟩
  | d + 1, k, h, rest, hk, hi, hd => by
    have hin := hi.inl i (List.mem_cons_self ..)
    have hkn : k < n := by omega
    by_cases hs : k = i ∨ E i k = false
    · rcases scan_ok symE symP s_end s_skip s_new s_bad s_fit f i H0 hcl d (k + 1) h rest (by omega) hi (fun q hq h1 h2 => by
        by_cases e : q = k
        · subst e
          rcases hs with hs | hs
          · exact absurd hs h1
          · rw [hs] at h2; cases h2
        · exact hd q (by omega) h1 h2) with ⟨h', rest', a1, a2, a3, a4, a5⟩ | ⟨a1, a2⟩
      · exact .inl ⟨h', rest', a1, a2, a3, a4, fun r hr => s_skip f i k h _ r hin.1 hkn hi.len hi.pm hs (a5 r hr)⟩
      · exact .inr ⟨a1, s_skip f i k h _ _ hin.1 hkn hi.len hi.pm hs a2⟩
    · have hki : k ≠ i := fun e => hs (.inl e)
      have hE : E i k = true := by
        cases he : E i k with
        | true => rfl
        | false => exact absurd (.inr he) hs
      have hgi : gtH h i = 1 ∨ gtH h i = -1 := by
        rcases hi.pm i with e | e
        · exact absurd e hin.2.1
        · exact e
      have hdue := pm_mul hgi (sg_pm P i k)
      have hlen : k < h.length := by rw [hi.len]; exact hkn
      by_cases h0 : gtH h k = 0
      · have hH0k : gtH H0 k = 0 := by
          by_cases e : gtH H0 k = 0
          · exact e
          · exact absurd (hi.old k e ▸ h0) e
        have hdn : gtH h i * sgH P i k ≠ 0 := by rcases hdue with e | e <;> omega
        have hgs := gt_set h k (gtH h i * sgH P i k) hlen
        have hcs := count_set0 h k (gtH h i * sgH P i k) hlen h0 hdn
        have hik : i ≠ k := fun e => hki e.symm
        have hinv : HInv n E P H0 (h.set k (gtH h i * sgH P i k)) (i :: (rest ++ [k])) := {
          len := by rw [List.length_set]; exact hi.len
          pm := fun j => by
            rw [hgs]
            by_cases e : j = k
            · rw [if_pos e]; exact .inr hdue
            · rw [if_neg e]; exact hi.pm j
          old := fun j hj => by
            rw [hgs, if_neg (fun e : j = k => hj (e ▸ hH0k))]
            exact hi.old j hj
          inl := fun j hj => by
            rw [hgs]
            by_cases e : j = k
            · subst e; rw [if_pos rfl]; exact ⟨hkn, hdn, hH0k⟩
            · rw [if_neg e]
              refine hi.inl j ?_
              simp only [List.mem_cons, List.mem_append, List.not_mem_nil, or_false] at hj ⊢
              rcases hj with h | h | h
              · exact .inl h
              · exact .inr h
              · exact absurd h e
          con := fun j hj hne => by
            rw [hgs] at hne
            by_cases e : j = k
            · subst e; exact .inl (by simp)
            · rw [if_neg e] at hne
              rcases hi.con j hj hne with h | h
              · exact .inl (by simp only [List.mem_cons, List.mem_append] at h ⊢; rcases h with h | h; (· exact .inl h); exact .inr (.inl h))
              · exact .inr (con_set hlen h0 hne h hkn)
          sgn := fun s hsv => by
            obtain ⟨c, hc, hcz⟩ := hi.sgn s hsv
            refine ⟨c, hc, fun j hj hj0 hne => ?_⟩
            rw [hgs] at hne ⊢
            by_cases e : j = k
            · subst e
              rw [if_pos rfl, hcz i hin.1 hin.2.2 hin.2.1, hsv.2 i j hin.1 hj hik hE, Int.mul_assoc]
            · rw [if_neg e] at hne ⊢
              exact hcz j hj hj0 hne
          room := by have := hi.room; simp at this ⊢; omega }
        have hd' : ∀ q, q < k + 1 → q ≠ i → E i q = true → gtH (h.set k (gtH h i * sgH P i k)) q = gtH (h.set k (gtH h i * sgH P i k)) i * sgH P i q := fun q hq h1 h2 => by
          rw [hgs, hgs, if_neg hik]
          by_cases e : q = k
          · subst e; rw [if_pos rfl]
          · rw [if_neg e]; exact hd q (by omega) h1 h2
        have hlr : (i :: rest).length ≤ n := by have := hi.room; omega
        rcases scan_ok symE symP s_end s_skip s_new s_bad s_fit f i H0 hcl d (k + 1) _ (rest ++ [k]) (by omega) hinv hd' with ⟨h', rest', a1, a2, a3, a4, a5⟩ | ⟨a1, a2⟩
        · refine .inl ⟨h', rest', a1, a2, by simp at a3; omega, fun j hj => ?_, fun r hr => s_new f i k h (i :: rest) r hin.1 hkn hi.len hi.pm hlr hki hE h0 (a5 r hr)⟩
          have hjk : j ≠ k := fun e => hj (e ▸ h0)
          have := a4 j (by rw [hgs, if_neg hjk]; exact hj)
          rw [this, hgs, if_neg hjk]
        · exact .inr ⟨a1, s_new f i k h (i :: rest) _ hin.1 hkn hi.len hi.pm hlr hki hE h0 a2⟩
      · by_cases hb : gtH h k = -(gtH h i * sgH P i k)
        · refine .inr ⟨?_, s_bad f i k h _ hin.1 hkn hi.len hi.pm hki hE h0 hb⟩
          rintro ⟨s, hs⟩
          obtain ⟨c, hc, hcs⟩ := hi.sgn s hs
          by_cases hH : gtH H0 k = 0
          · have e1 := hcs k hkn hH h0
            have e2 := hcs i hin.1 hin.2.2 hin.2.1
            have e3 := hs.2 i k hin.1 hkn (fun e => hki e.symm) hE
            have e4 : gtH h k = gtH h i * sgH P i k := by rw [e1, e2, e3, Int.mul_assoc]
            omega
          · have e1 := hcl k hkn hH i hin.1 (fun e => hki e.symm) ((symE k i hkn hin.1).trans hE)
            rw [hin.2.2] at e1
            rcases sg_pm P k i with e | e <;> rw [e] at e1 <;> omega
        · rcases scan_ok symE symP s_end s_skip s_new s_bad s_fit f i H0 hcl d (k + 1) h rest (by omega) hi (fun q hq h1 h2 => by
            by_cases e : q = k
            · subst e
              have hgq : gtH h q = 1 ∨ gtH h q = -1 := by
                rcases hi.pm q with e | e
                · exact absurd e h0
                · exact e
              rcases hgq with e1 | e1 <;> rcases hdue with e2 | e2 <;> omega
            · exact hd q (by omega) h1 h2) with ⟨h', rest', a1, a2, a3, a4, a5⟩ | ⟨a1, a2⟩
          · exact .inl ⟨h', rest', a1, a2, a3, a4, fun r hr => s_fit f i k h _ r hin.1 hkn hi.len hi.pm hki hE h0 hb (a5 r hr)⟩
          · exact .inr ⟨a1, s_fit f i k h _ _ hin.1 hkn hi.len hi.pm hki hE h0 hb a2⟩

theorem bfs_ok (symE : ∀ a b, a < n → b < n → E a b = E b a) (symP : ∀ a b, a < n → b < n → P a b = P b a)
    (b_go : ∀ f h i ln r, i < n → h.length = n → (i :: ln).length ≤ n → RS f i 0 h (i :: ln) r → RB f h (i :: ln) r)
    (s_end : ∀ f i h rest r, h.length = n → RB f h rest r → RS f i n h (i :: rest) r)
    (s_skip : ∀ f i k h ln r, i < n → k < n → h.length = n → PMH h → (k = i ∨ E i k = false) → RS f i (k + 1) h ln r → RS f i k h ln r)
    (s_new : ∀ f i k h ln r, i < n → k < n → h.length = n → PMH h → ln.length ≤ n → k ≠ i → E i k = true → gtH h k = 0 → RS f i (k + 1) (h.set k (gtH h i * sgH P i k)) (ln ++ [k]) r → RS f i k h ln r)
    (s_bad : ∀ f i k h ln, i < n → k < n → h.length = n → PMH h → k ≠ i → E i k = true → gtH h k ≠ 0 → gtH h k = -(gtH h i * sgH P i k) → RS f i k h ln false)
    (s_fit : ∀ f i k h ln r, i < n → k < n → h.length = n → PMH h → k ≠ i → E i k = true → gtH h k ≠ 0 → gtH h k ≠ -(gtH h i * sgH P i k) → RS f i (k + 1) h ln r → RS f i k h ln r)
    (f : Nat) (H0 : List Int) (hcl : ClosedH n E P H0) :
    ∀ (z : Nat) (h : List Int) (ln : List Nat), h.count 0 + ln.length = z → HInv n E P H0 h ln →
      (∃ h', HInv n E P H0 h' [] ∧ (∀ j, gtH h j ≠ 0 → gtH h' j = gtH h j) ∧ ∀ r, RB f h' [] r → RB f h ln r)
      ∨ ((¬ ∃ s, ValidH n E P s) ∧ RB f h ln false) := by
  intro z
  induction z with
  | zero =>
    intro h ln hz hi
    cases ln with
    | nil => exact .inl ⟨h, hi, fun _ _ => rfl, fun r hr => hr⟩
    | cons i rest => simp at hz
  | succ z ih =>
    intro h ln hz hi
    cases ln with
    | nil => exact .inl ⟨h, hi, fun _ _ => rfl, fun r hr => hr⟩
    | cons i rest =>
      have hin := hi.inl i (List.mem_cons_self ..)
      have hlr : (i :: rest).length ≤ n := by have := hi.room; omega
      rcases scan_ok symE symP s_end s_skip s_new s_bad s_fit f i H0 hcl n 0 h rest (by omega) hi (fun q hq => by omega) with ⟨h', rest', a1, a2, a3, a4, a5⟩ | ⟨a1, a2⟩
      · have hinv : HInv n E P H0 h' rest' := { a1 with
          inl := fun j hj => a1.inl j (List.mem_cons_of_mem _ hj)
          con := fun j hj hne => by
            rcases a1.con j hj hne with h | h
            · rcases List.mem_cons.1 h with e | h
              · subst e; exact .inr a2
              · exact .inl h
            · exact .inr h
          room := by have := a1.room; simp at this; omega }
        rcases ih h' rest' (by simp at hz; omega) hinv with ⟨h2, b1, b2, b3⟩ | ⟨b1, b2⟩
        · exact .inl ⟨h2, b1, fun j hj => by rw [← a4 j hj]; exact b2 j (by rw [a4 j hj]; exact hj), fun r hr => b_go f h i rest r hin.1 hi.len hlr (a5 r (b3 r hr))⟩
        · exact .inr ⟨b1, b_go f h i rest _ hin.1 hi.len hlr (a5 _ b2)⟩
      · exact .inr ⟨a1, b_go f h i rest _ hin.1 hi.len hlr a2⟩

theorem halves_ok (symE : ∀ a b, a < n → b < n → E a b = E b a) (symP : ∀ a b, a < n → b < n → P a b = P b a)
    (o_end : ∀ h, h.length = n → RO n h true)
    (o_skip : ∀ f h r, f < n → h.length = n → gtH h f ≠ 0 → RO (f + 1) h r → RO f h r)
    (o_go : ∀ f h r, f < n → h.length = n → gtH h f = 0 → RB f (h.set f 1) [f] r → RO f h r)
    (b_end : ∀ f h r, f < n → h.length = n → RO (f + 1) h r → RB f h [] r)
    (b_go : ∀ f h i ln r, i < n → h.length = n → (i :: ln).length ≤ n → RS f i 0 h (i :: ln) r → RB f h (i :: ln) r)
    (s_end : ∀ f i h rest r, h.length = n → RB f h rest r → RS f i n h (i :: rest) r)
    (s_skip : ∀ f i k h ln r, i < n → k < n → h.length = n → PMH h → (k = i ∨ E i k = false) → RS f i (k + 1) h ln r → RS f i k h ln r)
    (s_new : ∀ f i k h ln r, i < n → k < n → h.length = n → PMH h → ln.length ≤ n → k ≠ i → E i k = true → gtH h k = 0 → RS f i (k + 1) (h.set k (gtH h i * sgH P i k)) (ln ++ [k]) r → RS f i k h ln r)
    (s_bad : ∀ f i k h ln, i < n → k < n → h.length = n → PMH h → k ≠ i → E i k = true → gtH h k ≠ 0 → gtH h k = -(gtH h i * sgH P i k) → RS f i k h ln false)
    (s_fit : ∀ f i k h ln r, i < n → k < n → h.length = n → PMH h → k ≠ i → E i k = true → gtH h k ≠ 0 → gtH h k ≠ -(gtH h i * sgH P i k) → RS f i (k + 1) h ln r → RS f i k h ln r) :
    ∀ (d f : Nat) (h : List Int), f + d = n → h.length = n → PMH h → ClosedH n E P h → (∀ j, j < f → gtH h j ≠ 0) →
      ∃ b : Bool, RO f h b ∧ (b = true ↔ ∃ s, ValidH n E P s)
  | 0, f, h, hf, hl, hp, hcl, hd => by
    obtain rfl : f = n := by omega
    refine ⟨true, o_end h hl, fun _ => ⟨fun j => if gtH h j = -1 then -1 else 1, fun j => by dsimp only; split <;> simp, fun a b ha hb hab he => ?_⟩, fun _ => rfl⟩
    have e := hcl a ha (hd a ha) b hb (fun e => hab e.symm) he
    have v : ∀ j, j < f → (if gtH h j = -1 then (-1 : Int) else 1) = gtH h j := fun j hj => by
      rcases hp j with e | e | e
      · exact absurd e (hd j hj)
      · rw [e]; simp
      · rw [e]; simp
    dsimp only
    rw [v a ha, v b hb]
    exact e
  | d + 1, f, h, hf, hl, hp, hcl, hd => by
    have hfn : f < n := by omega
    by_cases h0 : gtH h f = 0
    · have hlen : f < h.length := by omega
      have hgs := gt_set h f 1 hlen
      have hcs := count_set0 h f 1 hlen h0 (by omega)
      have hcl0 : h.count 0 ≤ n := by rw [← hl]; exact List.count_le_length
      have hinv : HInv n E P h (h.set f 1) [f] := {
        len := by rw [List.length_set]; exact hl
        pm := fun j => by
          rw [hgs]
          split
          · exact .inr (.inl rfl)
          · exact hp j
        old := fun j hj => by rw [hgs, if_neg (fun e : j = f => hj (e ▸ h0))]
        inl := fun j hj => by
          obtain rfl : j = f := by simpa using hj
          exact ⟨hfn, by rw [hgs, if_pos rfl]; omega, h0⟩
        con := fun j hj hne => by
          rw [hgs] at hne
          by_cases e : j = f
          · exact .inl (by simp [e])
          · rw [if_neg e] at hne
            exact .inr (con_set hlen h0 hne (hcl j hj hne) hfn)
        sgn := fun s hs => by
          refine ⟨s f, hs.1 f, fun j hj hj0 hne => ?_⟩
          rw [hgs] at hne ⊢
          by_cases e : j = f
          · subst e
            rw [if_pos rfl]
            rcases hs.1 j with e | e <;> rw [e] <;> rfl
          · rw [if_neg e] at hne
            exact absurd hj0 hne
        room := by simp; omega }
      rcases bfs_ok symE symP b_go s_end s_skip s_new s_bad s_fit f h hcl _ _ _ rfl hinv with ⟨h', b1, b2, b3⟩ | ⟨b1, b2⟩
      · have hcl' : ClosedH n E P h' := fun j hj hne => by
          rcases b1.con j hj hne with h | h
          · simp at h
          · exact h
        obtain ⟨b, hb, hiff⟩ := halves_ok symE symP o_end o_skip o_go b_end b_go s_end s_skip s_new s_bad s_fit d (f + 1) h' (by omega) b1.len b1.pm hcl' (fun j hj => by
          by_cases e : j = f
          · subst e
            rw [b2 j (by rw [hgs, if_pos rfl]; omega), hgs, if_pos rfl]
            omega
          · have hj0 := hd j (by omega)
            rw [b2 j (by rw [hgs, if_neg e]; exact hj0), hgs, if_neg e]
            exact hj0)
        exact ⟨b, o_go f h b hfn hl h0 (b3 b (b_end f h' b hfn b1.len hb)), hiff⟩
      · exact ⟨false, o_go f h false hfn hl h0 b2, by simp; exact fun s hs => b1 ⟨s, hs⟩⟩
    · obtain ⟨b, hb, hiff⟩ := halves_ok symE symP o_end o_skip o_go b_end b_go s_end s_skip s_new s_bad s_fit d (f + 1) h (by omega) hl hp hcl (fun j hj => by
        by_cases e : j = f
        · subst e; exact h0
        · exact hd j (by omega))
      exact ⟨b, o_skip f h b hfn hl h0 hb, hiff⟩
end
end Go.Proofs.YtcgoaipbfnhjhaaGreatDoor.M

/- Steps for functions with a number of rounds: what holds from some number of rounds on. -/
namespace Go.Proofs.YtcgoaipbfnhjhaaGreatDoor.M
open Go.RowKit Go.Proofs.YtcgoaipbfnhjhaaGreatDoorW.PrintWords
set_option linter.unusedVariables false
set_option linter.unusedSimpArgs false

theorem w64 {x : Int} (h0 : -9223372036854775808 ≤ x) (h1 : x ≤ 9223372036854775807) : wrap64 x = x := by
  unfold wrap64
  omega

theorem Ev.pos {α : Type} {c : Prop} [Decidable c] {A B : Nat → Option α} {r : α} (h : c) (e : Ev A r) : Ev (fun k => if c then A k else B k) r := by
  simp only [h, if_true]
  exact e
theorem Ev.neg {α : Type} {c : Prop} [Decidable c] {A B : Nat → Option α} {r : α} (h : ¬ c) (e : Ev B r) : Ev (fun k => if c then A k else B k) r := by
  simp only [h, if_false]
  exact e
theorem Ev.bindc {α β : Type} {o : Option α} {f : Nat → α → Option β} {a : α} {r : β} (h : o = some a) (e : Ev (fun k => f k a) r) : Ev (fun k => o.bind (f k)) r := by
  subst h
  exact e
theorem Ev.bindk {α β : Type} {g : Nat → Option α} {f : Nat → α → Option β} {a : α} {r : β} (h : Ev g a) (e : Ev (fun k => f k a) r) : Ev (fun k => (g k).bind (f k)) r := Ev.bind h e
theorem Ev.val {α : Type} {r r' : α} (h : r = r') : Ev (fun _ => some r) r' := by
  subst h
  exact Ev.now r
/-- Two values of one thing are one. -/
theorem Ev.uniq {α : Type} {g : Nat → Option α} {r r' : α} (h : Ev g r) (h' : Ev g r') : r = r' := by
  obtain ⟨K, h⟩ := h
  obtain ⟨K', h'⟩ := h'
  have e := (h (max K K') (Nat.le_max_left _ _)).symm.trans (h' (max K K') (Nat.le_max_right _ _))
  exact Option.some.inj e

/-- A loop over a list by its index: what is left of the list decides the answer R; P is kept. -/
theorem Ev.scan {α β γ : Type} (L : Nat → Int → β → Option γ) (xs : List α) (R : List α → β → γ) (P : Nat → β → Prop)
    (h0 : ∀ acc, P xs.length acc → Ev (fun k => L k (xs.length : Int) acc) (R [] acc))
    (h1 : ∀ (i : Nat) (h : i < xs.length) (acc : β), P i acc → (∃ acc', P (i + 1) acc' ∧ R (xs[i] :: xs.drop (i + 1)) acc = R (xs.drop (i + 1)) acc' ∧ ∀ r, Ev (fun k => L k ((i : Int) + 1) acc') r → Ev (fun k => L k (i : Int) acc) r)
      ∨ Ev (fun k => L k (i : Int) acc) (R (xs[i] :: xs.drop (i + 1)) acc)) :
    ∀ (d i : Nat) (acc : β), i + d = xs.length → P i acc → Ev (fun k => L k (i : Int) acc) (R (xs.drop i) acc) := by
  intro d
  induction d with
  | zero =>
    intro i acc hi hp
    obtain rfl : i = xs.length := by omega
    rw [List.drop_length]
    exact h0 acc hp
  | succ d ih =>
    intro i acc hi hp
    have hlt : i < xs.length := by omega
    rw [List.drop_eq_getElem_cons hlt]
    rcases h1 i hlt acc hp with ⟨acc', hp', hR, hk⟩ | h
    · rw [hR]
      refine hk _ ?_
      have e := ih (i + 1) acc' (by omega) hp'
      rw [show (((i + 1 : Nat)) : Int) = (i : Int) + 1 from by omega] at e
      exact e
    · exact h
theorem Ev.scan0 {α β γ : Type} (L : Nat → Int → β → Option γ) (xs : List α) (R : List α → β → γ) (P : Nat → β → Prop)
    (h0 : ∀ acc, P xs.length acc → Ev (fun k => L k (xs.length : Int) acc) (R [] acc))
    (h1 : ∀ (i : Nat) (h : i < xs.length) (acc : β), P i acc → (∃ acc', P (i + 1) acc' ∧ R (xs[i] :: xs.drop (i + 1)) acc = R (xs.drop (i + 1)) acc' ∧ ∀ r, Ev (fun k => L k ((i : Int) + 1) acc') r → Ev (fun k => L k (i : Int) acc) r)
      ∨ Ev (fun k => L k (i : Int) acc) (R (xs[i] :: xs.drop (i + 1)) acc)) (acc : β) (hp : P 0 acc) : Ev (fun k => L k 0 acc) (R xs acc) := by
  have e := Ev.scan L xs R P h0 h1 xs.length 0 acc (by omega) hp
  simpa using e

/-- Counting up from i to n. -/
theorem Ev.upto {β γ : Type} (L : Nat → Int → β → Option γ) (n : Int) (R : Int → β → γ) (P : Int → β → Prop)
    (h0 : ∀ i acc, n ≤ i → P i acc → Ev (fun k => L k i acc) (R i acc))
    (h1 : ∀ i acc, i < n → P i acc → (∃ acc', P (i + 1) acc' ∧ R i acc = R (i + 1) acc' ∧ ∀ r, Ev (fun k => L k (i + 1) acc') r → Ev (fun k => L k i acc) r) ∨ Ev (fun k => L k i acc) (R i acc)) :
    ∀ (d : Nat) (i : Int) (acc : β), n ≤ i + d → P i acc → Ev (fun k => L k i acc) (R i acc) := by
  intro d
  induction d with
  | zero => intro i acc hi hp; exact h0 i acc (by omega) hp
  | succ d ih =>
    intro i acc hi hp
    by_cases hlt : i < n
    · rcases h1 i acc hlt hp with ⟨acc', hp', hR, hk⟩ | h
      · rw [hR]
        exact hk _ (ih (i + 1) acc' (by omega) hp')
      · exact h
    · exact h0 i acc (by omega) hp
end Go.Proofs.YtcgoaipbfnhjhaaGreatDoor.M

/- The search for two halves as the program makes it, with a bound on its rounds. Plain lists, no program. -/
namespace Go.Proofs.YtcgoaipbfnhjhaaGreatDoor.M
open Go.RowKit Go.Proofs.YtcgoaipbfnhjhaaGreatDoorW.PrintWords
set_option linter.unusedVariables false
set_option linter.unusedSimpArgs false

section
variable (n : Nat) (E P : Nat → Nat → Bool)
def dueW (h : List Int) (i k : Nat) : Int := if P i k = true then wrap64 (-(gtH h i)) else gtH h i
def scanW (i : Nat) : Nat → Nat → List Int → List Nat → Option (List Int × List Nat)
  | 0, _, h, ln => some (h, ln)
  | d + 1, k, h, ln => if k = i ∨ E i k = false then scanW i d (k + 1) h ln
      else if gtH h k = 0 then scanW i d (k + 1) (h.set k (dueW P h i k)) (ln ++ [k])
      else if gtH h k = wrap64 (-(dueW P h i k)) then none
      else scanW i d (k + 1) h ln
def bfsW : Nat → List Int → List Nat → Option (Option (List Int))
  | _, h, [] => some (some h)
  | 0, _, _ :: _ => none
  | z + 1, h, i :: rest => if 100 < rest.length then none else match scanW E P i n 0 h (i :: rest) with
    | none => some none
    | some p => bfsW z p.1 p.2.tail
def outW (y : Nat) : Nat → Nat → List Int → Option Bool
  | 0, _, _ => some true
  | d + 1, f, h => if gtH h f ≠ 0 then outW y d (f + 1) h else match bfsW n E P y (h.set f 1) [f] with
    | none => none
    | some none => some false
    | some (some h') => outW y d (f + 1) h'
def aftW (y f : Nat) : Option (Option (List Int)) → Option Bool
  | none => none
  | some none => some false
  | some (some h) => outW n E P y (n - (f + 1)) (f + 1) h
def RBw (f : Nat) (h : List Int) (ln : List Nat) (r : Bool) : Prop := ∃ Z, ∀ z y, Z ≤ z → Z ≤ y → aftW n E P y f (bfsW n E P z h ln) = some r
def ROw (f : Nat) (h : List Int) (r : Bool) : Prop := ∃ Z, ∀ y, Z ≤ y → outW n E P y (n - f) f h = some r
def scB (z : Nat) : Option (List Int × List Nat) → Option (Option (List Int))
  | none => some none
  | some p => bfsW n E P z p.1 p.2.tail
def RSw (f i k : Nat) (h : List Int) (ln : List Nat) (r : Bool) : Prop := ∃ Z, ∀ z y, Z ≤ z → Z ≤ y → aftW n E P y f (scB n E P z (scanW E P i (n - k) k h ln)) = some r
end
theorem bfsW_nil (n : Nat) (E P : Nat → Nat → Bool) (z : Nat) (h : List Int) : bfsW n E P z h [] = some (some h) := by cases z <;> rfl
theorem bfsW_cons (n : Nat) (E P : Nat → Nat → Bool) (z : Nat) (h : List Int) (i : Nat) (rest : List Nat) (hr : rest.length ≤ 100) : bfsW n E P (z + 1) h (i :: rest) = scB n E P z (scanW E P i n 0 h (i :: rest)) := by
  rw [bfsW, if_neg (by omega)]
  cases scanW E P i n 0 h (i :: rest) <;> rfl
theorem due_eq {P : Nat → Nat → Bool} {h : List Int} (hp : PMH h) (i k : Nat) : dueW P h i k = gtH h i * sgH P i k ∧ wrap64 (-(dueW P h i k)) = -(gtH h i * sgH P i k) := by
  unfold dueW sgH
  have w1 : wrap64 (-(1 : Int)) = -1 := by unfold wrap64; omega
  have w2 : wrap64 (-(-1 : Int)) = 1 := by unfold wrap64; omega
  have w0 : wrap64 (-(0 : Int)) = 0 := by unfold wrap64; omega
  rcases hp i with e | e | e <;> rw [e] <;> cases P i k <;> simp [w1, show wrap64 (0 : Int) = 0 by unfold wrap64; omega, show wrap64 (1 : Int) = 1 by unfold wrap64; omega]
/-- The search finds a way just if there is one. -/
theorem search_ok {n : Nat} {E P : Nat → Nat → Bool} (hn : n ≤ 100) (symE : ∀ a b, a < n → b < n → E a b = E b a) (symP : ∀ a b, a < n → b < n → P a b = P b a) :
    ∃ b : Bool, ROw n E P 0 (List.replicate n 0) b ∧ (b = true ↔ ∃ s, ValidH n E P s) := by
  have hz : ∀ j, gtH (List.replicate n 0) j = 0 := fun j => by
    unfold gtH
    rw [List.getD_eq_getElem?_getD, List.getElem?_replicate]
    split <;> rfl
  refine halves_ok (RS := RSw n E P) (RB := RBw n E P) (RO := ROw n E P) symE symP ?_ ?_ ?_ ?_ ?_ ?_ ?_ ?_ ?_ ?_ n 0 (List.replicate n 0) (by omega) (by simp) (fun j => .inl (hz j)) (fun j _ h => absurd (hz j) h) (fun j hj => by omega)
  · intro h _
    exact ⟨0, fun y _ => by rw [Nat.sub_self]; rfl⟩
  · rintro f h r hf hl h0 ⟨Z, hZ⟩
    refine ⟨Z, fun y hy => ?_⟩
    rw [show n - f = (n - (f + 1)) + 1 by omega, outW, if_pos h0]
    exact hZ y hy
  · rintro f h r hf hl h0 ⟨Z, hZ⟩
    refine ⟨Z, fun y hy => ?_⟩
    rw [show n - f = (n - (f + 1)) + 1 by omega, outW, if_neg (by simpa using h0)]
    have := hZ y y hy hy
    cases hb : bfsW n E P y (h.set f 1) [f] with
    | none => rw [hb] at this; exact this
    | some o => cases o with
      | none => rw [hb] at this; exact this
      | some h' => rw [hb] at this; exact this
  · rintro f h r hf hl ⟨Z, hZ⟩
    refine ⟨Z, fun z y hz hy => ?_⟩
    rw [bfsW_nil]
    exact hZ y hy
  · rintro f h i ln r hi hl hlen ⟨Z, hZ⟩
    refine ⟨Z + 1, fun z y hz hy => ?_⟩
    obtain ⟨z, rfl⟩ : ∃ z', z = z' + 1 := ⟨z - 1, by omega⟩
    rw [bfsW_cons n E P z h i ln (by simp at hlen; omega)]
    exact hZ z y (by omega) (by omega)
  · rintro f i h rest r hl ⟨Z, hZ⟩
    refine ⟨Z, fun z y hz hy => ?_⟩
    rw [Nat.sub_self, scanW]
    exact hZ z y hz hy
  · rintro f i k h ln r hi hk hl hp hs ⟨Z, hZ⟩
    refine ⟨Z, fun z y hz hy => ?_⟩
    rw [show n - k = (n - (k + 1)) + 1 by omega, scanW, if_pos hs]
    exact hZ z y hz hy
  · rintro f i k h ln r hi hk hl hp hlen hki hE h0 ⟨Z, hZ⟩
    refine ⟨Z, fun z y hz hy => ?_⟩
    rw [show n - k = (n - (k + 1)) + 1 by omega, scanW, if_neg (by rintro (e | e); (· exact hki e); rw [hE] at e; cases e), if_pos h0, (due_eq hp i k).1]
    exact hZ z y hz hy
  · rintro f i k h ln hi hk hl hp hki hE h0 hb
    refine ⟨0, fun z y hz hy => ?_⟩
    rw [show n - k = (n - (k + 1)) + 1 by omega, scanW, if_neg (by rintro (e | e); (· exact hki e); rw [hE] at e; cases e), if_neg h0, (due_eq hp i k).2, if_pos hb]
    rfl
  · rintro f i k h ln r hi hk hl hp hki hE h0 hb ⟨Z, hZ⟩
    refine ⟨Z, fun z y hz hy => ?_⟩
    rw [show n - k = (n - (k + 1)) + 1 by omega, scanW, if_neg (by rintro (e | e); (· exact hki e); rw [hE] at e; cases e), if_neg h0, (due_eq hp i k).2, if_neg hb]
    exact hZ z y hz hy
end Go.Proofs.YtcgoaipbfnhjhaaGreatDoor.M

/- What the program's haveHalves computes: a search for two halves. -/
namespace Go.Proofs.YtcgoaipbfnhjhaaGreatDoor.Pr
open Go.RowKit Go.Proofs.YtcgoaipbfnhjhaaGreatDoorW.PrintWords Go.Proofs.YtcgoaipbfnhjhaaGreatDoorW.PrintLast Go.Proofs.YtcgoaipbfnhjhaaGreatDoorW.PrintMore
set_option linter.unusedVariables false
set_option linter.unusedSimpArgs false

def hvE (w : ByteArray) (i k : Nat) : Bool := (impl_interlaced.f w (97 + (i : Int)) (97 + (k : Int))).getD false
def hvP (w : ByteArray) (i k : Nat) : Bool := Int.tmod ((impl_common.f w (97 + (i : Int)) (97 + (k : Int))).getD 0) 2 == 0
def okAll (w : ByteArray) : Bool := decide (w.size ≤ 16) && ((M.abcL (w.size / 2)).all fun c => okWith w c)
theorem okAll_at {w : ByteArray} (h : okAll w = true) : w.size ≤ 16 ∧ ∀ c ∈ M.abcL (w.size / 2), okWith w c = true := by
  unfold okAll at h
  simpa only [Bool.and_eq_true, decide_eq_true_eq, List.all_eq_true] using h
def impl_haveHalves.f (k : Nat) (a0 : ByteArray) : Option (Bool) :=
  if okAll a0 = true then M.outW (a0.size / 2) (hvE a0) (hvP a0) k (a0.size / 2) 0 (List.replicate (a0.size / 2) 0) else none

def intV (h : List Int) : List Value := h.map fun x => .int .i64 x
def natV (l : List Nat) : List Value := l.map fun (n : Nat) => .int .i64 (n : Int)
/-- Where the search's row of halves and its first iterator stand. -/
structure HavW (base gh ko : Nat) (s : ByteArray) (W0 W : World) (p : Nat) (h : List Int) : Prop where
  below : Below base W0 W
  lo : base ≤ gh
  ord : gh < ko
  sz : ko < W.heap.size
  half : W.heap[gh]? = some (.cells (intV h).toArray 3 (0, 0))
  out : W.heap[ko]? = some (.stringIter s p)
structure LineW (ko ki : Nat) (s : ByteArray) (W : World) (p : Nat) (v : Value) (l : List Nat) : Prop where
  own : OwnO W (ko + 1) 3 v (natV l)
  it : W.heap[ki]? = some (.stringIter s p)
  ne : v.ownBlock ≠ some ki
  hi : ko < ki
theorem HavW.same {base gh ko : Nat} {s : ByteArray} {W0 W W' : World} {p : Nat} {h : List Int} (H : HavW base gh ko s W0 W p h) (hb : Below base W0 W') (hs : W.heap.size ≤ W'.heap.size) (hg : W'.heap[gh]? = W.heap[gh]?) (ho : W'.heap[ko]? = W.heap[ko]?) : HavW base gh ko s W0 W' p h :=
  ⟨hb, H.lo, H.ord, Nat.lt_of_lt_of_le H.sz hs, hg.trans H.half, ho.trans H.out⟩
theorem HavW.base_le {base gh ko : Nat} {s : ByteArray} {W0 W : World} {p : Nat} {h : List Int} (H : HavW base gh ko s W0 W p h) : base ≤ W.heap.size := by
  have := H.lo; have := H.ord; have := H.sz; omega
theorem HavW.go {base gh ko : Nat} {s : ByteArray} {W0 W W' : World} {p : Nat} {h : List Int} (H : HavW base gh ko s W0 W p h) (hb : Below W.heap.size W W') : HavW base gh ko s W0 W' p h :=
  H.same (H.below.trans (hb.mono H.base_le)) hb.size (hb.block gh (by have := H.ord; have := H.sz; omega)) (hb.block ko H.sz)
theorem HavW.cell {base gh ko : Nat} {s : ByteArray} {W0 W : World} {p : Nat} {h : List Int} (H : HavW base gh ko s W0 W p h) (i : Nat) (hi : i < h.length) : W.cell? ⟨gh, i, none⟩ = some (.int .i64 (M.gtH h i)) ∧ W.frozen? ⟨gh, i, none⟩ = false := by
  refine ⟨?_, (by simp [World.frozen?, H.half])⟩
  unfold M.gtH
  simp [World.cell?, H.half, intV, hi, List.getD_eq_getElem?_getD]
theorem HavW.put {base gh ko : Nat} {s : ByteArray} {W0 W : World} {p : Nat} {h : List Int} (H : HavW base gh ko s W0 W p h) (i : Nat) (x : Int) : HavW base gh ko s W0 (W.setCell ⟨gh, i, none⟩ (.int .i64 x)) p (h.set i x) ∧ (W.setCell ⟨gh, i, none⟩ (.int .i64 x)).heap.size = W.heap.size ∧ ∀ g, g ≠ gh → (W.setCell ⟨gh, i, none⟩ (.int .i64 x)).heap[g]? = W.heap[g]? := by
  have e : W.setCell ⟨gh, i, none⟩ (.int .i64 x) = W.setRow gh ((intV h).toArray.setIfInBounds i (.int .i64 x)) := setCell_eq_setRow W gh i _ 3 (0, 0) _ H.half
  have hs : (W.setRow gh ((intV h).toArray.setIfInBounds i (.int .i64 x))).heap.size = W.heap.size := by simp [World.setRow]
  have ho : ∀ g, g ≠ gh → (W.setRow gh ((intV h).toArray.setIfInBounds i (.int .i64 x))).heap[g]? = W.heap[g]? := fun g hg => setRow_other W gh g _ hg
  rw [e]
  refine ⟨⟨H.below.trans ⟨rfl, rfl, rfl, Nat.le_of_eq hs.symm, fun k hk => ho k (by have := H.lo; omega)⟩, H.lo, H.ord, by rw [hs]; exact H.sz, ?_, ?_⟩, hs, ho⟩
  · rw [setRow_heap W gh _ _ 3 _ H.half]
    congr 2
    rw [List.setIfInBounds_toArray]
    unfold intV
    rw [List.map_set]
  · rw [ho ko (by have := H.ord; omega)]
    exact H.out
theorem LineW.same {ko ki : Nat} {s : ByteArray} {W W' : World} {p : Nat} {v : Value} {l : List Nat} (L : LineW ko ki s W p v l) (h : ∀ g, ko < g → g < W.heap.size → W'.heap[g]? = W.heap[g]?) : LineW ko ki s W' p v l := by
  refine ⟨L.own.same fun g hg => ?_, ?_, L.ne, L.hi⟩
  · obtain ⟨g', h1, h2, h3⟩ := L.own.lt
    rw [h1] at hg
    injection hg with hg
    exact h g (by omega) (by omega)
  · have := (Array.getElem?_eq_some_iff.1 L.it).1
    rw [h ki L.hi this]
    exact L.it
theorem LineW.go {ko ki : Nat} {s : ByteArray} {W W' : World} {p : Nat} {v : Value} {l : List Nat} (L : LineW ko ki s W p v l) (hb : Below W.heap.size W W') : LineW ko ki s W' p v l := L.same fun g _ hg => hb.block g hg
theorem LineW.next {ko ki : Nat} {s : ByteArray} {W : World} {p : Nat} {v : Value} {l : List Nat} (L : LineW ko ki s W p v l) (q : Nat) : LineW ko ki s (W.iterAt ki s q) q v l :=
  ⟨L.own.same fun g hg => Lib.iterAt_other W ki g s q (fun e => L.ne (by rw [hg, e])), Lib.iterAt_heap W ki s p q L.it, L.ne, L.hi⟩
theorem HavW.next {base gh ko ki : Nat} {s : ByteArray} {W0 W : World} {p : Nat} {h : List Int} (H : HavW base gh ko s W0 W p h) (hk : ko < ki) (q : Nat) : HavW base gh ko s W0 (W.iterAt ki s q) p h :=
  H.same (Lib.below_iterAt H.below (by have := H.lo; have := H.ord; omega) s q) (Nat.le_of_eq (Lib.iterAt_size W ki s q).symm) (Lib.iterAt_other W ki gh s q (by have := H.ord; omega)) (Lib.iterAt_other W ki ko s q (by omega))
theorem HavW.step {base gh ko : Nat} {s : ByteArray} {W0 W : World} {p : Nat} {h : List Int} (H : HavW base gh ko s W0 W p h) (q : Nat) : HavW base gh ko s W0 (W.iterAt ko s q) q h :=
  ⟨Lib.below_iterAt H.below (by have := H.lo; have := H.ord; omega) s q, H.lo, H.ord, by rw [Lib.iterAt_size]; exact H.sz, (Lib.iterAt_other W ko gh s q (by have := H.ord; omega)).trans H.half, Lib.iterAt_heap W ko s p q H.out⟩

theorem okE {w : ByteArray} {n : Nat} (hn : w.size / 2 = n) (hk : ∀ c ∈ M.abcL n, okWith w c = true) (i k : Nat) (hi : i < n) (hkk : k < n) : impl_interlaced.f w (97 + (i : Int)) (97 + (k : Int)) = some (hvE w i k) := by
  obtain ⟨h1, h2⟩ := okWith_at (hk (97 + (i : Int)) ((M.mem_abc n _).2 (by omega)))
  obtain ⟨b, hb⟩ := h2 (97 + (k : Int)) (by omega) (by omega)
  unfold hvE
  rw [hb]
  rfl
theorem okP {w : ByteArray} {n : Nat} (hn : w.size / 2 = n) (hk : ∀ c ∈ M.abcL n, okWith w c = true) (i k : Nat) (hi : i < n) (hkk : k < n) : ∃ c, impl_common.f w (97 + (i : Int)) (97 + (k : Int)) = some c ∧ hvP w i k = (Int.tmod c 2 == 0) := by
  have h1 := hk (97 + (i : Int)) ((M.mem_abc n _).2 (by omega))
  have h2 := hk (97 + (k : Int)) ((M.mem_abc n _).2 (by omega))
  unfold hvP impl_common.f
  rw [if_pos ⟨h1, h2⟩]
  exact ⟨_, rfl, rfl⟩
theorem lett_byte : ∀ n : Fin 9, (lettS n.val).size = n.val ∧ ∀ i : Fin 8, (h : i.val < (lettS n.val).size) → ((lettS n.val)[i.val]'h).toNat = 97 + i.val := by decide +kernel
theorem LineW.app {ko ki : Nat} {s : ByteArray} {W w1 : World} {p : Nat} {v v1 u : Value} {l : List Nat} {ty : TypeId} (L : LineW ko ki s W p v l) (n : Nat) (ho : OwnO w1 (ko + 1) 3 v1 (natV l ++ [.int .i64 (n : Int)])) (hg : (W.alloc (.cells #[u] ty)).grownBy w1 v.ownBlock) (hv : v1.ownBlock = v.ownBlock ∨ ∃ g, v1.ownBlock = some g ∧ W.heap.size ≤ g) : LineW ko ki s w1 p v1 (l ++ [n]) := by
  have hki := (Array.getElem?_eq_some_iff.1 L.it).1
  refine ⟨by unfold natV at ho ⊢; rw [List.map_append]; exact ho, ?_, ?_, L.hi⟩
  · rw [hg.block ki (Nat.lt_of_lt_of_le hki (below_alloc (Below.refl _ _) _).size) (fun e => L.ne e.symm), heap_alloc_old W _ hki]
    exact L.it
  · rcases hv with e | ⟨g, e, h⟩
    · rw [e]; exact L.ne
    · rw [e]
      simp only [ne_eq, Option.some.injEq]
      omega
theorem HavW.app {base gh ko : Nat} {s : ByteArray} {W0 W w1 : World} {p : Nat} {h : List Int} (H : HavW base gh ko s W0 W p h) (hb : Below (ko + 1) W w1) : HavW base gh ko s W0 w1 p h :=
  H.same (H.below.trans (hb.mono (by have := H.lo; have := H.ord; omega))) hb.size (hb.block gh (by have := H.ord; omega)) (hb.block ko (by omega))
theorem LineW.put {base gh ko ki : Nat} {s : ByteArray} {W0 W : World} {p r : Nat} {v : Value} {l : List Nat} {h : List Int} (L : LineW ko ki s W p v l) (H : HavW base gh ko s W0 W r h) (i : Nat) (x : Int) : LineW ko ki s (W.setCell ⟨gh, i, none⟩ (.int .i64 x)) p v l :=
  L.same fun g hg _ => (H.put i x).2.2 g (by have := H.ord; omega)
theorem alloc_own (W : World) (base : Nat) (hb : base ≤ W.heap.size) (e : TypeId) (u : Value) : OwnO (W.alloc (.cells #[u] e)) base e (.slice (some ⟨W.heap.size, 0, none⟩) 1 1) [u] :=
  ⟨W.heap.size, 0, 1, #[u], (0, 0), rfl, hb, heap_alloc_new W _, fun h => absurd h (by decide), by simp, by simp [maxLen], by simp, by simp⟩
theorem made_zeros (n : Nat) : madeCells (Value.cells (.int .i64 0)) n = (intV (List.replicate n 0)).toArray := by
  unfold madeCells intV
  refine Array.ext (by simp) fun i h1 h2 => ?_
  simp [Value.cells, Nat.mod_one]
theorem info_int' : (Tryz.prog.info? 3).map (fun i => (i.zero, i.size, i.bytes)) = some (some (.int .i64 0), 1, 8) := by kernel_rfl

set_option maxHeartbeats 1000000 in
set_option maxRecDepth 100000 in
theorem impl_haveHalves.calls (k : Nat) (a0 : ByteArray) (r : Bool) (w : World) (h : impl_haveHalves.f k a0 = some r) :
    Calls Tryz.prog 113 #[.string a0] w fun e w' => e = .returned (.bool r) ∧ Below w.heap.size w w' := by
  unfold impl_haveHalves.f at h
  by_cases hq : okAll a0 = true
  · rw [if_pos hq] at h
    obtain ⟨h16, hok⟩ := okAll_at hq
    obtain ⟨n, hn⟩ : ∃ n, a0.size / 2 = n := ⟨_, rfl⟩
    rw [hn] at h hok
    have hn8 : n ≤ 8 := by omega
    have hle : impl_lettersOf.f a0 = some (lettS n) := by
      unfold impl_lettersOf.f
      rw [M.w64 (x := (a0.size : Int) / 2) (by omega) (by omega), if_pos (by omega), if_pos (by omega), show ((a0.size : Int) / 2).toNat = n by omega]
      rfl
    obtain ⟨hls, hlb⟩ := lett_byte ⟨n, by omega⟩
    obtain ⟨s, hs⟩ : ∃ s, s = lettS n := ⟨_, rfl⟩
    rw [← hs] at hle
    have hsz : s.size = n := by rw [hs]; exact hls
    have hby : ∀ (i : Nat) (hi : i < s.size), (s[i]'hi).toNat = 97 + i := by
      intro i hi
      subst hs
      exact hlb ⟨i, by omega⟩ hi
    clear hlb hls hs
    have HL := Aside0.mk (fun (W : World) => impl_lettersOf.calls a0 s W hle)
    have HE := Aside0.mk (fun (i k : Nat) (hi : i < n) (hk : k < n) (W : World) => (impl_interlaced.calls a0 _ _ _ W (okE hn hok i k hi hk)).mono (fun e w' h => (⟨h.1, by obtain ⟨m, hm⟩ := h.2; exact ⟨m, hm⟩⟩ : e = .returned (.bool (hvE a0 i k)) ∧ ∃ m, w' = W.drewN m)))
    have HP := Aside0.mk (fun (i k : Nat) (hi : i < n) (hk : k < n) => okP hn hok i k hi hk)
    have HBY := Aside0.mk hby
    have HH := Aside0.mk (show M.outW n (hvE a0) (hvP a0) k (n - 0) 0 (List.replicate n 0) = some r from h)
    have HB := Aside0.mk (Below.refl w.heap.size w)
    clear h hok hle hby hq
    go_enter Tryz.func113, Tryz.ntmps113
    go_wp2_with (go_at_call 111; refine (HL.out _).mono ?_; rintro e w1 ⟨rfl, ⟨nd, rfl⟩⟩)
    obtain ⟨i0, hi0, hzz⟩ := Option.map_eq_some_iff.1 info_int'
    simp only [Prod.mk.injEq] at hzz
    obtain ⟨hz0, hz1, hz2⟩ := hzz
    rw [run_makeSlice (P := Tryz.prog) (w.drewN nd) 56 3 i0 (.int .i64 0) Tryz.underlying56 hi0 hz0 .i64 .i64 (n : Int) (n : Int) (by omega) (Int.le_refl _) (by rw [hz1]; omega) (by rw [hz2]; omega) (by omega), hz1, Nat.mul_one, Int.toNat_natCast]
    simp only [Result.andThen]
    rw [Oper.upon_value]
    clear hi0 hz0 hz1 hz2
    have hmc : madeCells (Value.cells (.int .i64 0)) n = (intV (List.replicate n 0)).toArray := made_zeros n
    rw [hmc]
    obtain ⟨W1, hW1⟩ : ∃ W1, W1 = (w.drewN nd).alloc (.cells (intV (List.replicate n 0)).toArray 3) := ⟨_, rfl⟩
    obtain ⟨gh, hgh⟩ : ∃ gh, gh = w.heap.size := ⟨_, rfl⟩
    have HG1 := Aside0.mk (show W1.heap[gh]? = some (.cells (intV (List.replicate n 0)).toArray 3 (0, 0)) ∧ W1.heap.size = gh + 1 ∧ Below w.heap.size w W1 by
      subst hW1 hgh
      exact ⟨heap_alloc_new (w.drewN nd) _, by simp [World.alloc], below_alloc (pw_below_drewN (Below.refl _ _) nd) _⟩)
    rw [← hW1]
    clear hW1 hmc HB HL
    go_wp2_with fail
    obtain ⟨ko, hko⟩ : ∃ ko, ko = W1.heap.size := ⟨_, rfl⟩
    have HW := Aside0.mk (show HavW w.heap.size gh ko s w (W1.iter s 0) 0 (List.replicate n 0) by
      obtain ⟨g1, g2, g3⟩ := HG1.out
      have e : (W1.iter s 0).heap = W1.heap.push (.stringIter s 0) := rfl
      refine ⟨g3.alloc (by omega) _, by omega, by omega, by rw [e, Array.size_push]; omega, ?_, ?_⟩
      · rw [e, Array.getElem?_push, if_neg (by omega)]
        exact g1
      · rw [hko]
        exact World.iter_heap W1 s 0)
    rw [← hko, ← hgh]
    clear hko HG1 hgh
    generalize W1.iter s 0 = W2 at HW ⊢
    have hLen : (List.replicate n (0 : Int)).length = n := List.length_replicate
    generalize List.replicate n (0 : Int) = h0 at HW HH hLen
    have HLen := Aside0.mk hLen
    clear hLen
    go_loopg [5, 6, 7, 8, 9] n (fun gg v5 v6 v7 v8 v9 w' => ∃ (p : Nat) (h : List Int), Aside0 (p + gg = n) ∧ Aside0 (HavW w.heap.size gh ko s w w' p h) ∧ Aside0 (h.length = n) ∧ Aside0 (M.outW n (hvE a0) (hvP a0) k (n - p) p h = some r))
    case atStart => exact ⟨0, h0, ⟨by omega⟩, HW, HLen, HH⟩
    case round =>
      obtain ⟨p, h, HG, HW2, HLen2, HH2⟩ := hrel
      clear HW HLen HH
      have HW := HW2
      have HLen := HLen2
      have HH := HH2
      clear HW2 HLen2 HH2
      by_cases hp : p < n
      · obtain ⟨gm, rfl⟩ : ∃ gm, gk = gm + 1 := ⟨gk - 1, by have := HG.out; omega⟩
        have hnext : ∀ ty, (Instr.next (.pointer (some ⟨ko, 0, none⟩)) true ty).run Tryz.prog wr = _ := fun ty => Lib.run_next_ascii_at wr ko s p ty HW.out.out (by omega) (by have := HBY.out p (by omega); omega)
        have HW3 := Aside0.mk (HW.out.step (p + 1))
        clear HW
        generalize wr.iterAt ko s (p + 1) = W3 at hnext HW3
        have hc := HW3.out.cell p (by have := HLen.out; omega)
        have hH := HH.out
        rw [show n - p = (n - (p + 1)) + 1 by omega, M.outW] at hH
        obtain ⟨hc1, hc2⟩ := hc
        have b1 : ((n : Int) ≤ (p : Int)) = False := eq_false (by omega)
        have b2 : (p : Int) < (n : Int) := by omega
        by_cases hz : M.gtH h p = 0
        · rw [if_neg (by simpa using hz)] at hH
          have HH2 := Aside0.mk hH
          rw [hz] at hc1
          have hput := HW3.out.put p 1
          clear hH HH
          go_wp2_with fail
          have hW4 : HavW w.heap.size gh ko s w ((W3.setCell ⟨gh, p, none⟩ (.int .i64 1)).alloc (.cells #[.int .i64 (p : Int)] 3)) (p + 1) (h.set p 1) := hput.1.go (below_alloc (Below.refl _ _) _)
          have hO4 : OwnO ((W3.setCell ⟨gh, p, none⟩ (.int .i64 1)).alloc (.cells #[.int .i64 (p : Int)] 3)) (ko + 1) 3 (.slice (some ⟨W3.heap.size, 0, none⟩) 1 1) (natV [p]) := by
            have := alloc_own (W3.setCell ⟨gh, p, none⟩ (.int .i64 1)) (ko + 1) (by rw [hput.2.1]; have := HW3.out.sz; omega) 3 (.int .i64 (p : Int))
            rwa [hput.2.1] at this
          have HW4 := Aside0.mk hW4
          have HO4 := Aside0.mk hO4
          have HL4 := Aside0.mk (show (h.set p 1).length = n by rw [List.length_set]; exact HLen.out)
          have HR4 := Aside0.mk (show M.aftW n (hvE a0) (hvP a0) k p (M.bfsW n (hvE a0) (hvP a0) k (h.set p 1) [p]) = some r from by
            have e := HH2.out
            revert e
            cases M.bfsW n (hvE a0) (hvP a0) k (h.set p 1) [p] with
            | none => exact id
            | some o => cases o with
              | none => exact id
              | some h' => exact id)
          have HS4 := Aside0.mk (show ∀ j ∈ [p], j < n from fun j hj => by simp at hj; omega)
          clear hput hW4 hO4 HW3 hc1 hc2 HH2 hnext HLen hz
          generalize (W3.setCell ⟨gh, p, none⟩ (.int .i64 1)).alloc (.cells #[.int .i64 (p : Int)] 3) = W4 at HW4 HO4 ⊢
          generalize (Value.slice (some ⟨W3.heap.size, 0, none⟩) 1 1) = v40 at HO4 ⊢
          generalize h.set p 1 = h4 at HW4 HL4 HR4
          generalize [p] = l4 at HO4 HR4 HS4
          go_loopg [6, 7, 8, 9] k (fun gg v6 v7 v8 v9 w' => ∃ (h : List Int) (ln : List Nat), Aside0 (HavW w.heap.size gh ko s w w' (p + 1) h) ∧ Aside0 (h.length = n) ∧ Aside0 (OwnO w' (ko + 1) 3 v6 (natV ln)) ∧ Aside0 (∀ j ∈ ln, j < n) ∧ Aside0 (M.aftW n (hvE a0) (hvP a0) k p (M.bfsW n (hvE a0) (hvP a0) gg h ln) = some r))
          case atStart => exact ⟨h4, l4, HW4, HL4, HO4, HS4, HR4⟩
          case round =>
            obtain ⟨h, ln, HW, HLen, HO, HS, HR⟩ := hrel
            clear HW4 HO4 HL4 HR4 HS4
            obtain ⟨g, off, cap, cur, fz, rfl, hO⟩ := HO.out
            clear hO
            cases ln with
            | nil =>
              have HH2 := Aside0.mk (show M.outW n (hvE a0) (hvP a0) k (n - (p + 1)) (p + 1) h = some r by
                have e := HR.out
                rw [M.bfsW_nil] at e
                exact e)
              clear HR HO HS
              go_wp2_with fail
              go_roundg gm
              case measure => omega
              case rel => exact ⟨p + 1, h, ⟨by have := HG.out; omega⟩, HW, HLen, HH2⟩
            | cons i rest =>
              have hR := HR.out
              obtain ⟨z, rfl⟩ : ∃ z, gk = z + 1 := by
                cases gk with
                | zero => exact absurd hR (by simp [M.bfsW, M.aftW])
                | succ z => exact ⟨z, rfl⟩
              have hrl : rest.length ≤ 100 := by
                by_cases hc : 100 < rest.length
                · exfalso
                  rw [M.bfsW, if_pos hc] at hR
                  exact absurd hR (by simp [M.aftW])
                · omega
              rw [M.bfsW_cons _ _ _ _ _ _ _ hrl] at hR
              have HR2 := Aside0.mk (show M.aftW n (hvE a0) (hvP a0) k p (M.scB n (hvE a0) (hvP a0) z (M.scanW (hvE a0) (hvP a0) i (n - 0) 0 h (i :: rest))) = some r from hR)
              have hin : i < n := HS.out i (List.mem_cons_self ..)
              have hcl : wr.cell? ⟨g, off, none⟩ = some (.int .i64 (i : Int)) := by
                have := OwnO.cell HO.out 0 (.int .i64 (i : Int)) rfl
                rwa [Nat.add_zero] at this
              have hln : (natV (i :: rest)).length = rest.length + 1 := by simp [natV]
              rw [hln] at HO ⊢
              have b3 : ((0 : Int) < ((rest.length + 1 : Nat) : Int)) := by omega
              have b4 : (((rest.length + 1 : Nat) : Int) ≤ 0) = False := eq_false (by omega)
              clear hR HR
              go_wp2_with fail
              have hki : wr.heap.size = wr.heap.size := rfl
              obtain ⟨hg1, hg2, hg3⟩ : ko + 1 ≤ g ∧ g < wr.heap.size ∧ True := by
                obtain ⟨g', e1, e2, e3⟩ := HO.out.lt
                simp only [Value.ownBlock, Option.some.injEq] at e1
                subst e1
                exact ⟨e2, e3, trivial⟩
              have hph : (wr.iter s 0).heap = wr.heap.push (.stringIter s 0) := rfl
              have hold : ∀ q, q < wr.heap.size → (wr.iter s 0).heap[q]? = wr.heap[q]? := fun q hq => by rw [hph, Array.getElem?_push, if_neg (by omega)]
              have HW5 := Aside0.mk (show HavW w.heap.size gh ko s w (wr.iter s 0) (p + 1) h from HW.out.same (HW.out.below.alloc HW.out.base_le (.stringIter s 0)) (show wr.heap.size ≤ (wr.iter s 0).heap.size by rw [hph, Array.size_push]; omega) (hold gh (by have := HW.out.ord; have := HW.out.sz; omega)) (hold ko HW.out.sz))
              have HLi5 := Aside0.mk (show LineW ko wr.heap.size s (wr.iter s 0) 0 (.slice (some ⟨g, off, none⟩) (rest.length + 1) cap) (i :: rest) from
                ⟨HO.out.same fun q hq => by (simp only [Value.ownBlock, Option.some.injEq] at hq; subst hq; exact hold g hg2), World.iter_heap wr s 0, by simp only [Value.ownBlock, ne_eq, Option.some.injEq]; omega, HW.out.sz⟩)
              have HT5 := Aside0.mk (show ∃ t, i :: rest = i :: t from ⟨rest, rfl⟩)
              have HN5 := Aside0.mk (show (i :: rest).length ≤ 101 + 0 by simp; omega)
              clear hki hg1 hg2 hg3 hph hold HW HO hcl b3 b4 hln
              generalize wr.heap.size = ki at HLi5 ⊢
              generalize wr.iter s 0 = W5 at HW5 HLi5 ⊢
              generalize (Value.slice (some ⟨g, off, none⟩) (rest.length + 1) cap) = v60 at HLi5 ⊢
              generalize i :: rest = l6 at HLi5 HT5 HN5 HR2 HS
              go_loopg [6, 8, 9] n (fun gg v6 v8 v9 w' => ∃ (q : Nat) (h : List Int) (ln : List Nat), Aside0 (q + gg = n) ∧ Aside0 (HavW w.heap.size gh ko s w w' (p + 1) h) ∧ Aside0 (h.length = n) ∧ Aside0 (LineW ko ki s w' q v6 ln) ∧ Aside0 (∃ t, ln = i :: t) ∧ Aside0 (∀ j ∈ ln, j < n) ∧ Aside0 (ln.length ≤ 101 + q) ∧ Aside0 (M.aftW n (hvE a0) (hvP a0) k p (M.scB n (hvE a0) (hvP a0) z (M.scanW (hvE a0) (hvP a0) i (n - q) q h ln)) = some r))
              case atStart => exact ⟨0, h, l6, ⟨by omega⟩, HW5, HLen, HLi5, HT5, HS, HN5, HR2⟩
              case round =>
                clear HW5 HLen HLi5 HT5 HS HN5 HR2
                obtain ⟨q, h, ln, HGq, HW, HLen, HLi, HT, HS, HN, HR⟩ := hrel
                by_cases hqn : q < n
                · obtain ⟨gn, rfl⟩ : ∃ gn, gk = gn + 1 := ⟨gk - 1, by have := HGq.out; omega⟩
                  have hnext : ∀ ty, (Instr.next (.pointer (some ⟨ki, 0, none⟩)) true ty).run Tryz.prog wr = _ := fun ty => Lib.run_next_ascii_at wr ki s q ty HLi.out.it (by omega) (by have := HBY.out q (by omega); omega)
                  have HW2 := Aside0.mk (HW.out.next HLi.out.hi (q + 1))
                  have HLi2 := Aside0.mk (HLi.out.next (q + 1))
                  clear HW HLi
                  generalize wr.iterAt ki s (q + 1) = W6 at hnext HW2 HLi2
                  have hR := HR.out
                  rw [show n - q = (n - (q + 1)) + 1 by omega, M.scanW] at hR
                  have c1 : (((s[i]'(by omega)).toNat : Nat) : Int) = 97 + (i : Int) := by have := HBY.out i (by omega); omega
                  have c2 : (((s[q]'(by omega)).toNat : Nat) : Int) = 97 + (q : Int) := by have := HBY.out q (by omega); omega
                  have HE1 := Aside0.mk (fun (W : World) => HE.out i q hin hqn W)
                  have d1 : (i : Int) < (s.size : Int) := by omega
                  have d2 : (q : Int) < (s.size : Int) := by omega
                  by_cases hqi : q = i
                  · have e1 : ((q : Int) == (i : Int)) = true := beq_iff_eq.2 (by omega)
                    rw [if_pos (.inl hqi)] at hR
                    have HR2 := Aside0.mk hR
                    clear hR HR hqi
                    go_wp2_with fail
                    go_quiet (fail)
                    go_wp2_with fail
                    go_roundg gn
                    case measure => omega
                    case rel => exact ⟨q + 1, h, ln, ⟨by have := HGq.out; omega⟩, ⟨HW2.out.go (pw_below_drewN (Below.refl _ _) nq)⟩, HLen, ⟨HLi2.out.go (pw_below_drewN (Below.refl _ _) nq)⟩, HT, HS, ⟨by have := HN.out; omega⟩, HR2⟩
                  · have e1 : ((q : Int) == (i : Int)) = false := beq_eq_false_iff_ne.2 (by omega)
                    cases hE : hvE a0 i q with
                    | false =>
                      rw [if_pos (.inr hE)] at hR
                      rw [hE] at HE1
                      have HR2 := Aside0.mk hR
                      clear hR HR hqi hE
                      go_wp2_with fail
                      go_quiet ((go_at_call 92; exact Calls.quiet_of (HE1.out _)))
                      go_wp2_with fail
                      go_roundg gn
                      case measure => omega
                      case rel => exact ⟨q + 1, h, ln, ⟨by have := HGq.out; omega⟩, ⟨HW2.out.go (pw_below_drewN (Below.refl _ _) nq)⟩, HLen, ⟨HLi2.out.go (pw_below_drewN (Below.refl _ _) nq)⟩, HT, HS, ⟨by have := HN.out; omega⟩, HR2⟩
                    | true =>
                      rw [hE] at HE1
                      rw [if_neg (by rintro (e | e); (· exact hqi e); rw [hE] at e; cases e)] at hR
                      have HR2 := Aside0.mk hR
                      obtain ⟨c, hc1, hc2⟩ := HP.out i q hin hqn
                      have HC := Aside0.mk (fun (W : World) => impl_common.calls a0 _ _ c W hc1)
                      have HCP := Aside0.mk hc2
                      clear hR HR hE hc1 hc2
                      go_wp2_with fail
                      go_quiet ((go_at_call 92; exact Calls.quiet_of (HE1.out _)))
                      have HW3 := Aside0.mk (HW2.out.go (pw_below_drewN (Below.refl _ _) nq))
                      have HLi3 := Aside0.mk (HLi2.out.go (pw_below_drewN (Below.refl _ _) nq))
                      clear HW2 HLi2
                      generalize W6.drewN nq = W7 at HW3 HLi3 ⊢
                      have hci := (HW3.out.cell i (by have := HLen.out; omega)).1
                      have b5 : ((n : Int) ≤ (i : Int)) = False := eq_false (by omega)
                      have b6 : (i : Int) < (n : Int) := by omega
                      go_wp2_with fail
                      go_region_held3 (fun w' => Below W7.heap.size W7 w')
                        ((first | assumption | exact Below.refl _ _ | exact below_drew (Below.refl _ _) | exact below_drew (by assumption) | exact below_keep (by assumption) (by assumption) | (simp [*]; done)))
                        (first | (go_at_call 112; refine (HC.out _).mono ?_; rintro e w8 ⟨rfl, hb8⟩))
                      all_goals
                        rename_i hx8
                        have HW4 := Aside0.mk (HW3.out.go hx8)
                        have HLi4 := Aside0.mk (HLi3.out.go hx8)
                        clear HW3 HLi3 hb8 hx8 hci hnext
                        obtain ⟨hq1, hq2⟩ := HW4.out.cell q (by have := HLen.out; omega)
                        have hput := Aside0.mk (fun (x : Int) => HW4.out.put q x)
                        have b7 : ((n : Int) ≤ (q : Int)) = False := eq_false (by omega)
                        have b8 : (q : Int) < (n : Int) := by omega
                      all_goals
                        cases hcp : (Int.tmod c 2 == 0) with
                        | true =>
                          have HD := HCP.out
                          rw [hcp] at HD
                          have HD2 : M.dueW (hvP a0) h i q = wrap64 (-(M.gtH h i)) := by unfold M.dueW; rw [HD]; rfl
                          have hR := HR2.out
                          rw [HD2] at hR
                          clear HD HD2 HCP HR2
                          by_cases hz0 : M.gtH h q = 0
                          · rw [if_pos hz0] at hR
                            have HR3 := Aside0.mk hR
                            clear hR
                            have e2 : (M.gtH h q == 0) = true := beq_iff_eq.2 hz0
                            obtain ⟨due, hdue⟩ : ∃ d, d = wrap64 (-(M.gtH h i)) := ⟨_, rfl⟩
                            rw [← hdue] at HR3
                            have hp1 := HW4.out.put q due
                            have HW9 := Aside0.mk hp1.1
                            have HL9 := Aside0.mk (HLi4.out.put HW4.out q due)
                            have HS9 := Aside0.mk hp1.2.1
                            rw [hdue] at HW9 HL9 HS9
                            have hll : (natV ln).length ≤ 1000000 := by have := HN.out; simp [natV]; omega
                            have HLL := Aside0.mk hll
                            have HKO := Aside0.mk (show ko + 1 ≤ w8.heap.size from HW4.out.sz)
                            clear hp1 HW4 HLi4 hput hz0 hll
                            go_wp2_with (first | ((with_reducible refine gate_builtin (b := .append) (xs := #[.tmp 83, .tmp 85]) rfl ?_); at_builtin; refine wp_append_off (w0 := _) (ko + 1) rfl (.tmp 83) (.tmp 85) 56 3 (.int .i64 0) 8 (by omega) rfl Tryz.underlying56 info_int' rfl u6 (natV ln) _ rfl (by rw [HS9.out]; rfl) rfl HL9.out.own (Below.refl _ _) (by rw [HS9.out]; exact HKO.out) HLL.out ?_; intro v11 w11 ho hb hgb hov; have HO11 := Aside0.mk (HL9.out.app q ho hgb hov); have HW11 := Aside0.mk (HW9.out.app hb); clear ho hb hgb hov))
                            subst hdue
                            go_roundg gn
                            case measure => omega
                            case rel => exact ⟨q + 1, _, ln ++ [q], ⟨by have := HGq.out; omega⟩, HW11, ⟨by rw [List.length_set]; exact HLen.out⟩, HO11, ⟨by obtain ⟨t, ht⟩ := HT.out; exact ⟨t ++ [q], by rw [ht]; rfl⟩⟩, ⟨fun j hj => by rcases List.mem_append.1 hj with hj | hj; (· exact HS.out j hj); simp at hj; omega⟩, ⟨by have := HN.out; simp; omega⟩, HR3⟩
                          · rw [if_neg hz0] at hR
                            have e2 : (M.gtH h q == 0) = false := beq_eq_false_iff_ne.2 hz0
                            by_cases hbd : M.gtH h q = wrap64 (-wrap64 (-(M.gtH h i)))
                            · rw [if_pos hbd] at hR
                              obtain rfl : r = false := by
                                have e := hR
                                simp only [M.scB, M.aftW, Option.some.injEq] at e
                                exact e.symm
                              have e3 : (M.gtH h q == wrap64 (-wrap64 (-(M.gtH h i)))) = true := beq_iff_eq.2 hbd
                              clear hR hz0 hbd
                              go_wp2_with fail
                              go_ret
                              exact ⟨rfl, HW4.out.below⟩
                            · rw [if_neg hbd] at hR
                              have HR3 := Aside0.mk hR
                              have e3 : (M.gtH h q == wrap64 (-wrap64 (-(M.gtH h i)))) = false := beq_eq_false_iff_ne.2 hbd
                              clear hR hz0 hbd
                              go_wp2_with fail
                              go_roundg gn
                              case measure => omega
                              case rel => exact ⟨q + 1, h, ln, ⟨by have := HGq.out; omega⟩, HW4, HLen, HLi4, HT, HS, ⟨by have := HN.out; omega⟩, HR3⟩
                        | false =>
                          have HD := HCP.out
                          rw [hcp] at HD
                          have HD2 : M.dueW (hvP a0) h i q = M.gtH h i := by unfold M.dueW; rw [HD]; rfl
                          have hR := HR2.out
                          rw [HD2] at hR
                          clear HD HD2 HCP HR2
                          by_cases hz0 : M.gtH h q = 0
                          · rw [if_pos hz0] at hR
                            have HR3 := Aside0.mk hR
                            clear hR
                            have e2 : (M.gtH h q == 0) = true := beq_iff_eq.2 hz0
                            obtain ⟨due, hdue⟩ : ∃ d, d = M.gtH h i := ⟨_, rfl⟩
                            rw [← hdue] at HR3
                            have hp1 := HW4.out.put q due
                            have HW9 := Aside0.mk hp1.1
                            have HL9 := Aside0.mk (HLi4.out.put HW4.out q due)
                            have HS9 := Aside0.mk hp1.2.1
                            rw [hdue] at HW9 HL9 HS9
                            have hll : (natV ln).length ≤ 1000000 := by have := HN.out; simp [natV]; omega
                            have HLL := Aside0.mk hll
                            have HKO := Aside0.mk (show ko + 1 ≤ w8.heap.size from HW4.out.sz)
                            clear hp1 HW4 HLi4 hput hz0 hll
                            go_wp2_with (first | ((with_reducible refine gate_builtin (b := .append) (xs := #[.tmp 83, .tmp 85]) rfl ?_); at_builtin; refine wp_append_off (w0 := _) (ko + 1) rfl (.tmp 83) (.tmp 85) 56 3 (.int .i64 0) 8 (by omega) rfl Tryz.underlying56 info_int' rfl u6 (natV ln) _ rfl (by rw [HS9.out]; rfl) rfl HL9.out.own (Below.refl _ _) (by rw [HS9.out]; exact HKO.out) HLL.out ?_; intro v11 w11 ho hb hgb hov; have HO11 := Aside0.mk (HL9.out.app q ho hgb hov); have HW11 := Aside0.mk (HW9.out.app hb); clear ho hb hgb hov))
                            subst hdue
                            go_roundg gn
                            case measure => omega
                            case rel => exact ⟨q + 1, _, ln ++ [q], ⟨by have := HGq.out; omega⟩, HW11, ⟨by rw [List.length_set]; exact HLen.out⟩, HO11, ⟨by obtain ⟨t, ht⟩ := HT.out; exact ⟨t ++ [q], by rw [ht]; rfl⟩⟩, ⟨fun j hj => by rcases List.mem_append.1 hj with hj | hj; (· exact HS.out j hj); simp at hj; omega⟩, ⟨by have := HN.out; simp; omega⟩, HR3⟩
                          · rw [if_neg hz0] at hR
                            have e2 : (M.gtH h q == 0) = false := beq_eq_false_iff_ne.2 hz0
                            by_cases hbd : M.gtH h q = wrap64 (-(M.gtH h i))
                            · rw [if_pos hbd] at hR
                              obtain rfl : r = false := by
                                have e := hR
                                simp only [M.scB, M.aftW, Option.some.injEq] at e
                                exact e.symm
                              have e3 : (M.gtH h q == wrap64 (-(M.gtH h i))) = true := beq_iff_eq.2 hbd
                              clear hR hz0 hbd
                              go_wp2_with fail
                              go_ret
                              exact ⟨rfl, HW4.out.below⟩
                            · rw [if_neg hbd] at hR
                              have HR3 := Aside0.mk hR
                              have e3 : (M.gtH h q == wrap64 (-(M.gtH h i))) = false := beq_eq_false_iff_ne.2 hbd
                              clear hR hz0 hbd
                              go_wp2_with fail
                              go_roundg gn
                              case measure => omega
                              case rel => exact ⟨q + 1, h, ln, ⟨by have := HGq.out; omega⟩, HW4, HLen, HLi4, HT, HS, ⟨by have := HN.out; omega⟩, HR3⟩
                · have hnext : ∀ ty, (Instr.next (.pointer (some ⟨ki, 0, none⟩)) true ty).run Tryz.prog wr = _ := fun ty => Lib.run_next_end_at wr ki s q ty HLi.out.it (by omega)
                  have hR := HR.out
                  rw [show n - q = 0 by omega, M.scanW] at hR
                  obtain ⟨t, ht⟩ := HT.out
                  subst ht
                  have HR2 := Aside0.mk (show M.aftW n (hvE a0) (hvP a0) k p (M.bfsW n (hvE a0) (hvP a0) z h t) = some r from hR)
                  obtain ⟨g', off', cap', cur', fz', hv, hO'⟩ := HLi.out.own
                  have hO := HLi.out.own
                  have hnl : (natV (i :: t)).length = t.length + 1 := by simp [natV]
                  rw [hnl] at hv
                  subst hv
                  have hrest := OwnO.rest (x := .int .i64 (i : Int)) (xs := natV t) hO
                  have HS2 := Aside0.mk (show ∀ j ∈ t, j < n from fun j hj => HS.out j (List.mem_cons_of_mem _ hj))
                  have hcap : t.length + 1 ≤ cap' := by have := hO'.2.2.2.1; rwa [hnl] at this
                  clear hR HR hO hO' HS HN hnl
                  by_cases hc1 : cap' = 1
                  · subst hc1
                    have ht0 : t = [] := List.eq_nil_of_length_eq_zero (by omega)
                    subst ht0
                    rw [if_pos rfl] at hrest
                    have HO2 := Aside0.mk (show OwnO wr (ko + 1) 3 (.slice (some ⟨g', off', none⟩) 0 0) (natV []) from hrest)
                    clear hrest
                    go_wp2_with fail
                    go_roundg z
                    case measure => omega
                    case rel => exact ⟨h, _, HW, HLen, HO2, HS2, HR2⟩
                  · rw [if_neg hc1, Nat.add_sub_cancel] at hrest
                    have HO2 := Aside0.mk hrest
                    clear hrest
                    go_wp2_with fail
                    go_roundg z
                    case measure => omega
                    case rel => exact ⟨h, _, HW, HLen, HO2, HS2, HR2⟩
        · rw [if_pos hz] at hH
          have HH2 := Aside0.mk hH
          have e1 : (M.gtH h p != 0) = true := by simpa using hz
          generalize M.gtH h p = y at hc1 e1
          clear hH HH hz
          go_wp2_with fail
          go_roundg gm
          case measure => omega
          case rel => exact ⟨p + 1, h, ⟨by have := HG.out; omega⟩, HW3, HLen, HH2⟩
      · have hnext : ∀ ty, (Instr.next (.pointer (some ⟨ko, 0, none⟩)) true ty).run Tryz.prog wr = _ := fun ty => Lib.run_next_end_at wr ko s p ty HW.out.out (by omega)
        have hH := HH.out
        rw [show n - p = 0 by omega, M.outW] at hH
        obtain rfl := Option.some.inj hH
        clear hH HH
        go_wp2_with fail
        go_ret
        exact ⟨rfl, HW.out.below⟩
  · rw [if_neg hq] at h
    cases h
end Go.Proofs.YtcgoaipbfnhjhaaGreatDoor.Pr

/- What the program's isEvenLoop computes. -/
namespace Go.Proofs.YtcgoaipbfnhjhaaGreatDoor.Pr
open Go.RowKit Go.Proofs.YtcgoaipbfnhjhaaGreatDoorW.PrintWords Go.Proofs.YtcgoaipbfnhjhaaGreatDoorW.PrintLast Go.Proofs.YtcgoaipbfnhjhaaGreatDoorW.PrintMore
set_option linter.unusedVariables false
set_option linter.unusedSimpArgs false

/-- Whether a letter is interlaced with an odd number of others. -/
def oddB (w : ByteArray) (c : Int) : Bool := (((strOfNums (M.lettP (withB w c) 97 (w.size / 2))).size : Int) % 2 == 1)
def impl_isEvenLoop.f (a0 : ByteArray) : Option (Bool) := if decide (a0.size ≤ 16) && ((M.abcL (a0.size / 2)).all fun c => okWith a0 c) then some ((strOfNums (M.lettP (oddB a0) 97 (a0.size / 2))).toList.isEmpty) else none

set_option maxHeartbeats 4000000 in
theorem even_pred (w0 : ByteArray) (c : Int) (hk : okWith w0 c = true) (B : Nat) (W : World) (h1 : W.cell? ⟨B, 0, none⟩ = some (.string w0)) :
    Calls Tryz.prog 118 #[.int .u8 c, .pointer (some ⟨B, 0, none⟩)] W fun e w' => e = .returned (.bool (oddB w0 c)) ∧ Below W.heap.size W w' := by
  unfold oddB
  have HI := Aside0.mk (fun (W1 : World) => impl_interlacedWith.calls w0 c _ W1 (if_pos hk))
  generalize strOfNums (M.lettP (withB w0 c) 97 (w0.size / 2)) = s at HI ⊢
  clear hk
  go_enter Tryz.func118, Tryz.ntmps118
  go_wp2_with (go_at_call 91; refine (HI.out _).mono ?_; rintro e w' ⟨rfl, hb⟩)
  go_ret
  exact ⟨rfl, hb⟩

set_option maxHeartbeats 4000000 in
theorem impl_isEvenLoop.calls (a0 : ByteArray) (r : Bool) (w : World) (h : impl_isEvenLoop.f a0 = some r) :
    Calls Tryz.prog 80 #[.string a0] w fun e w' => e = .returned (.bool r) ∧ Below w.heap.size w w' := by
  unfold impl_isEvenLoop.f at h
  by_cases hk : (decide (a0.size ≤ 16) && ((M.abcL (a0.size / 2)).all fun c => okWith a0 c)) = true
  · rw [if_pos hk] at h
    simp only [Bool.and_eq_true, decide_eq_true_eq, List.all_eq_true] at hk
    obtain ⟨h16, hall⟩ := hk
    obtain rfl := Option.some.inj h
    have eg : ∀ args w, (callFunc 118 args).run Tryz.prog w = .ok (.enter 118 args) w := enters_of Tryz.func118 (by kernel_rfl) rfl
    have hb0 : Below w.heap.size w (w.alloc (.cells #[.string a0] 9)) := below_alloc (Below.refl _ _) _
    have hs0 : w.heap.size < (w.alloc (.cells #[.string a0] 9)).heap.size := by simp
    have hx0 : (w.alloc (.cells #[.string a0] 9)).cell? ⟨w.heap.size, 0, none⟩ = some (.string a0) := by simp
    have hL := Aside0.mk (lettersWith_calls a0 (a0.size / 2) rfl (by omega) (oddB a0) 118 #[.pointer (some ⟨w.heap.size, 0, none⟩)] eg (w.alloc (.cells #[.string a0] 9))
      (fun W2 x h1 h2 hb => even_pred a0 x (hall x ((M.mem_abc _ x).2 ⟨h1, h2⟩)) w.heap.size W2 ((hb.cell (p := ⟨w.heap.size, 0, none⟩) hs0).trans hx0)))
    generalize strOfNums (M.lettP (oddB a0) 97 (a0.size / 2)) = s at hL h
    have HB0 := Aside0.mk hb0
    clear h eg hx0 hs0 hall hb0
    go_enter Tryz.func80, Tryz.ntmps80
    go_wp2_with (go_at_call 82; refine hL.out.mono ?_; rintro e w' ⟨rfl, hb⟩)
    go_ret
    exact ⟨rfl, HB0.out.trans (hb.mono (by simp))⟩
  · rw [if_neg hk] at h; cases h
end Go.Proofs.YtcgoaipbfnhjhaaGreatDoor.Pr

/- What the program's canBeDrawn computes. -/
namespace Go.Proofs.YtcgoaipbfnhjhaaGreatDoor.Pr
open Go.RowKit Go.Proofs.YtcgoaipbfnhjhaaGreatDoorW.PrintWords Go.Proofs.YtcgoaipbfnhjhaaGreatDoorW.PrintLast Go.Proofs.YtcgoaipbfnhjhaaGreatDoorW.PrintMore
set_option linter.unusedVariables false
set_option linter.unusedSimpArgs false

/-- Two letters that keep a loop from being drawn. -/
def pairBad (w : ByteArray) (i j : Nat) : Bool := decide (i < j) && !(hvE w i j) && (Int.tmod ((impl_common.f w (97 + (i : Int)) (97 + (j : Int))).getD 0) 2 == 1)
def anyBad (w : ByteArray) (n : Nat) : Bool := (List.range n).any fun i => (List.range n).any fun j => pairBad w i j
def impl_canBeDrawn.f (k : Nat) (a0 : ByteArray) : Option (Bool) :=
  (impl_isEvenLoop.f a0).bind fun e => if e = true then (if okAll a0 = true then (if anyBad a0 (a0.size / 2) = true then some false else impl_haveHalves.f k a0) else none) else some false
theorem outW_mono (n : Nat) (E P : Nat → Nat → Bool) : ∀ (z : Nat) (h : List Int) (l : List Nat), LeO (M.bfsW n E P z h l) (M.bfsW n E P (z + 1) h l)
  | z, h, [] => by rw [M.bfsW_nil, M.bfsW_nil]; exact LeO.refl _
  | 0, h, i :: rest => LeO.none _
  | z + 1, h, i :: rest => by
    rw [M.bfsW, M.bfsW]
    refine LeO.ite (LeO.refl _) ?_
    cases M.scanW E P i n 0 h (i :: rest) with
    | none => exact LeO.refl _
    | some p => exact outW_mono n E P z _ _
theorem outW_mono2 (n : Nat) (E P : Nat → Nat → Bool) (y : Nat) : ∀ (d f : Nat) (h : List Int), LeO (M.outW n E P y d f h) (M.outW n E P (y + 1) d f h)
  | 0, f, h => LeO.refl _
  | d + 1, f, h => by
    rw [M.outW, M.outW]
    refine LeO.ite (outW_mono2 n E P y d (f + 1) h) ?_
    have hb := outW_mono n E P y (h.set f 1) [f]
    cases e : M.bfsW n E P y (h.set f 1) [f] with
    | none => exact LeO.none _
    | some o =>
      rw [hb _ e]
      cases o with
      | none => exact LeO.refl _
      | some h' => exact outW_mono2 n E P y d (f + 1) h'
theorem impl_haveHalves.mono : ∀ a0 k, LeO (impl_haveHalves.f k a0) (impl_haveHalves.f (k + 1) a0) := by
  intro a0 k
  unfold impl_haveHalves.f
  exact LeO.ite (outW_mono2 _ _ _ _ _ _ _) (LeO.refl _)
theorem impl_canBeDrawn.mono : ∀ a0 k, LeO (impl_canBeDrawn.f k a0) (impl_canBeDrawn.f (k + 1) a0) := by
  intro a0 k
  unfold impl_canBeDrawn.f
  exact LeO.bind (LeO.refl _) (fun _ => LeO.ite (LeO.ite (LeO.ite (LeO.refl _) (impl_haveHalves.mono _ _)) (LeO.refl _)) (LeO.refl _))

theorem bytes_cells (W : World) (s : ByteArray) (hs : s.size ≤ 1000) (j : Nat) (hj : j < s.size) : (Lib.bytesWorld W 5 s).cell? ⟨W.heap.size, j, none⟩ = some (.int .u8 ((s[j]'hj).toNat : Int)) := by
  have hc0 := bytes_C W 5 s (by omega)
  have hl := bytesOf_length s
  obtain ⟨ad, e1, hc⟩ := hc0.2.2 (by omega)
  injection e1 with e1
  subst e1
  have hg : (bytesOf s)[j]? = some ((s[j]'hj).toNat : Int) := by
    unfold bytesOf
    rw [List.getElem?_map, Array.getElem?_toList]
    show Option.map _ s.data[j]? = _
    rw [Array.getElem?_eq_getElem hj]
    rfl
  obtain ⟨cs_, h1, h2, h3⟩ := hc j _ hg
  have h4 := h3 0 (.int .u8 ((s[j]'hj).toNat : Int)) (by rw [show cs_ = [Value.int .u8 ((s[j]'hj).toNat : Int)] from h2]; rfl)
  have ha : (⟨W.heap.size, 0, none⟩ : Addr).add (j * (Kd.int .u8).sz + 0) = ⟨W.heap.size, j, none⟩ := by
    rw [add_plain]
    show (⟨W.heap.size, j * 1 + 0, none⟩ : Addr) = _
    rw [show j * 1 + 0 = j by omega]
  rwa [ha] at h4
/-- A text's letters, in a block of their own. -/
structure LetW (B n : Nat) (W : World) : Prop where
  lt : B < W.heap.size
  at_ : ∀ q : Nat, q < n → W.cell? ⟨B, q, none⟩ = some (.int .u8 (97 + (q : Int)))
theorem LetW.go {B n : Nat} {W W' : World} (L : LetW B n W) (hb : Below W.heap.size W W') : LetW B n W' :=
  ⟨Nat.lt_of_lt_of_le L.lt hb.size, fun q hq => (hb.cell (p := ⟨B, q, none⟩) L.lt).trans (L.at_ q hq)⟩
theorem let_bytes (W : World) (s : ByteArray) (n : Nat) (hs : s.size = n) (hn : n ≤ 8) (hby : ∀ (i : Nat) (hi : i < s.size), (s[i]'hi).toNat = 97 + i) : LetW W.heap.size n (Lib.bytesWorld W 5 s) := by
  refine ⟨by rw [Lib.bytesWorld_size]; omega, fun q hq => ?_⟩
  rw [bytes_cells W s (by omega) q (by omega)]
  have := hby q (by omega)
  congr 2
  omega
theorem anyBad_none {w : ByteArray} {n : Nat} (h : ∀ i j, i < n → j < n → pairBad w i j = false) : anyBad w n = false := by
  unfold anyBad
  rw [List.any_eq_false]
  intro i hi
  rw [Bool.not_eq_true, List.any_eq_false]
  intro j hj
  rw [Bool.not_eq_true]
  exact h i j (List.mem_range.1 hi) (List.mem_range.1 hj)
theorem anyBad_some {w : ByteArray} {n : Nat} {i j : Nat} (hi : i < n) (hj : j < n) (h : pairBad w i j = true) : anyBad w n = true := by
  unfold anyBad
  exact List.any_eq_true.2 ⟨i, List.mem_range.2 hi, List.any_eq_true.2 ⟨j, List.mem_range.2 hj, h⟩⟩

set_option maxHeartbeats 2000000 in
set_option maxRecDepth 100000 in
theorem impl_canBeDrawn.calls (k : Nat) (a0 : ByteArray) (r : Bool) (w : World) (h : impl_canBeDrawn.f k a0 = some r) :
    Calls Tryz.prog 68 #[.string a0] w fun e w' => e = .returned (.bool r) ∧ Below w.heap.size w w' := by
  obtain ⟨ev, hev, h⟩ := Option.bind_eq_some_iff.mp h
  have HEv := Aside0.mk (fun (W : World) => impl_isEvenLoop.calls a0 ev W hev)
  have HB := Aside0.mk (Below.refl w.heap.size w)
  cases ev with
  | false =>
    rw [if_neg (by decide)] at h
    obtain rfl := Option.some.inj h
    clear h hev
    go_enter Tryz.func68, Tryz.ntmps68
    go_wp2_with (go_at_call 80; refine (HEv.out _).mono ?_; rintro e w1 ⟨rfl, hb⟩)
    go_ret
    exact ⟨rfl, hb⟩
  | true =>
    rw [if_pos rfl] at h
    by_cases hq : okAll a0 = true
    · rw [if_pos hq] at h
      obtain ⟨h16, hok⟩ := okAll_at hq
      obtain ⟨n, hn⟩ : ∃ n, a0.size / 2 = n := ⟨_, rfl⟩
      rw [hn] at h hok
      have hn8 : n ≤ 8 := by omega
      have hle : impl_lettersOf.f a0 = some (lettS n) := by
        unfold impl_lettersOf.f
        rw [M.w64 (x := (a0.size : Int) / 2) (by omega) (by omega), if_pos (by omega), if_pos (by omega), show ((a0.size : Int) / 2).toNat = n by omega]
        rfl
      obtain ⟨hls, hlb⟩ := lett_byte ⟨n, by omega⟩
      obtain ⟨s, hs⟩ : ∃ s, s = lettS n := ⟨_, rfl⟩
      rw [← hs] at hle
      have hsz : s.size = n := by rw [hs]; exact hls
      have hby : ∀ (i : Nat) (hi : i < s.size), (s[i]'hi).toNat = 97 + i := by
        intro i hi
        subst hs
        exact hlb ⟨i, by omega⟩ hi
      have HLB := Aside0.mk (fun (W : World) => let_bytes W s n hsz hn8 hby)
      clear hlb hls hs hby
      have HL := Aside0.mk (fun (W : World) => impl_lettersOf.calls a0 s W hle)
      have HE := Aside0.mk (fun (i k : Nat) (hi : i < n) (hk : k < n) (W : World) => impl_interlaced.calls a0 _ _ _ W (okE hn hok i k hi hk))
      have HP := Aside0.mk (fun (i j : Nat) (hi : i < n) (hj : j < n) => (show ∃ c, (∀ W : World, Calls Tryz.prog 112 #[.string a0, .int .u8 (97 + (i : Int)), .int .u8 (97 + (j : Int))] W fun e w' => e = .returned (.int .i64 c) ∧ Below W.heap.size W w') ∧ pairBad a0 i j = (decide (i < j) && !(hvE a0 i j) && (Int.tmod c 2 == 1)) by
        obtain ⟨c, hc, _⟩ := okP hn hok i j hi hj
        refine ⟨c, fun W => impl_common.calls a0 _ _ c W hc, ?_⟩
        unfold pairBad
        rw [hc]
        rfl))
      have HH := Aside0.mk h
      clear h hok hle hev hq
      go_enter Tryz.func68, Tryz.ntmps68
      go_wp2_with (first | (go_at_call 80; refine (HEv.out _).mono ?_; rintro e w1 ⟨rfl, hb1⟩; have n0_ := Aside0.mk (below_keep hb1 HB.out); clear HB; have HB := n0_; clear n0_ hb1) | (go_at_call 111; refine (HL.out _).mono ?_; rintro e w2 ⟨rfl, ⟨nd, rfl⟩⟩; have n0_ := Aside0.mk (pw_below_drewN HB.out nd); clear HB; have HB := n0_; clear n0_))
      rw [print_bytes 9 22 5 Tryz.underlying9 Tryz.underlying22 Tryz.underlying5]
      simp only [Result.andThen]
      rw [Oper.upon_value, hsz]
      have HLe := Aside0.mk (HLB.out (w1.drewN nd))
      have HB2 := Aside0.mk (bytes_below HB.out (HB.out.size) 5 s)
      clear HB
      generalize Lib.bytesWorld (w1.drewN nd) 5 s = W1 at HLe HB2 ⊢
      generalize (w1.drewN nd).heap.size = B1 at HLe ⊢
      generalize grownCap (w1.drewN nd) n 0 5 = cp
      have HA := Aside0.mk (fun (i j : Nat) (hi : i < 0) (hj : j < n) => show pairBad a0 i j = false from absurd hi (Nat.not_lt_zero _))
      go_wp2_with fail
      go_loopg [4, 6, 14] n (fun gg v4 v6 v14 w' => ∃ (i : Nat), v14 = .int .i64 i ∧ Aside0 (i + gg = n) ∧ Aside0 (LetW B1 n w') ∧ Aside0 (Below w.heap.size w w') ∧ Aside0 (∀ i' j : Nat, i' < i → j < n → pairBad a0 i' j = false))
      case atStart => exact ⟨0, by first | rfl | (simp; done), ⟨by omega⟩, HLe, HB2, HA⟩
      case round =>
        obtain ⟨i, rfl, HG, HLe2, HB, HA2⟩ := hrel
        clear HLe HB2 HA
        by_cases hi : i < n
        · have e4 : decide ((i : Int) < (n : Int)) = true := decide_eq_true (by omega)
          have e5 : decide (i < n) = true := decide_eq_true hi
          obtain ⟨gm, rfl⟩ : ∃ gm, gk = gm + 1 := ⟨gk - 1, by have := HG.out; omega⟩
          have h0 := HLe2.out.at_ i hi
          have b1 : ((n : Int) ≤ (i : Int)) = False := eq_false (by omega)
          have b2 : (i : Int) < (n : Int) := by omega
          go_wp2_with (go_at_call 111; refine (HL.out _).mono ?_; rintro e w2 ⟨rfl, ⟨nd2, rfl⟩⟩)
          rw [print_bytes 9 22 5 Tryz.underlying9 Tryz.underlying22 Tryz.underlying5]
          simp only [Result.andThen]
          rw [Oper.upon_value, hsz]
          have HLi := Aside0.mk (HLB.out (wr.drewN nd2))
          have hb3 : Below wr.heap.size wr (Lib.bytesWorld (wr.drewN nd2) 5 s) := bytes_below (pw_below_drewN (Below.refl _ _) nd2) (Nat.le_refl _) 5 s
          have HB3 := Aside0.mk (below_keep hb3 HB.out)
          have HLo := Aside0.mk (HLe2.out.go hb3)
          clear HB HLe2 hb3 h0
          generalize Lib.bytesWorld (wr.drewN nd2) 5 s = W2 at HLi HB3 HLo ⊢
          generalize (wr.drewN nd2).heap.size = B2 at HLi ⊢
          generalize grownCap (wr.drewN nd2) n 0 5 = cp2
          have HA3 := Aside0.mk (fun (j : Nat) (hj : j < 0) => show pairBad a0 i j = false from absurd hj (Nat.not_lt_zero _))
          go_wp2_with fail
          go_loopg [6, 22] n (fun gg v6 v22 w' => ∃ (j : Nat), v22 = .int .i64 j ∧ Aside0 (j + gg = n) ∧ Aside0 (LetW B1 n w') ∧ Aside0 (LetW B2 n w') ∧ Aside0 (Below w.heap.size w w') ∧ Aside0 (∀ j' : Nat, j' < j → pairBad a0 i j' = false))
          case atStart => exact ⟨0, by first | rfl | (simp; done), ⟨by omega⟩, HLo, HLi, HB3, HA3⟩
          case round =>
            obtain ⟨j, rfl, HGj, HLo2, HLi2, HB, HA4⟩ := hrel
            clear HLo HLi HB3 HA3
            by_cases hj : j < n
            · have f4 : decide ((j : Int) < (n : Int)) = true := decide_eq_true (by omega)
              have f5 : decide (j < n) = true := decide_eq_true hj
              obtain ⟨gn, rfl⟩ : ∃ gn, gk = gn + 1 := ⟨gk - 1, by have := HGj.out; omega⟩
              have h1 := HLi2.out.at_ j hj
              have b3 : ((n : Int) ≤ (j : Int)) = False := eq_false (by omega)
              have b4 : (j : Int) < (n : Int) := by omega
              have HE1 := Aside0.mk (fun (W : World) => HE.out i j hi hj W)
              obtain ⟨c, hc1, hc2⟩ := HP.out i j hi hj
              have HC := Aside0.mk hc1
              have HPB := Aside0.mk hc2
              clear hc1 hc2
              by_cases hij : i < j
              · have e6 : decide (97 + (i : Int) < 97 + (j : Int)) = true := decide_eq_true (by omega)
                cases hE : hvE a0 i j with
                | true =>
                  rw [hE] at HE1
                  have HA5 := Aside0.mk (fun (j' : Nat) (hj' : j' < j + 1) => show pairBad a0 i j' = false from by
                    by_cases e : j' = j
                    · subst e
                      rw [HPB.out, hE]
                      simp
                    · exact HA4.out j' (by omega))
                  clear hE HPB
                  go_wp2_with (go_at_call 92; refine (HE1.out _).mono ?_; rintro e w3 ⟨rfl, ⟨nd3, rfl⟩⟩)
                  go_roundg gn
                  case measure => omega
                  case rel => exact ⟨j + 1, by first | rfl | (simp; done), ⟨by have := HGj.out; omega⟩, ⟨HLo2.out.go (pw_below_drewN (Below.refl _ _) nd3)⟩, ⟨HLi2.out.go (pw_below_drewN (Below.refl _ _) nd3)⟩, ⟨pw_below_drewN HB.out nd3⟩, HA5⟩
                | false =>
                  rw [hE] at HE1
                  cases hcp : (Int.tmod c 2 == 1) with
                  | true =>
                    have hbad : anyBad a0 n = true := anyBad_some hi hj (by rw [HPB.out, hE, hcp, decide_eq_true hij]; rfl)
                    obtain rfl : r = false := by
                      have e := HH.out
                      rw [if_pos hbad] at e
                      exact (Option.some.inj e).symm
                    clear hE HPB hbad
                    go_wp2_with (first | (go_at_call 92; refine (HE1.out _).mono ?_; rintro e w3 ⟨rfl, ⟨nd3, rfl⟩⟩; have n0_ := Aside0.mk (pw_below_drewN HB.out nd3); clear HB; have HB := n0_; clear n0_) | (go_at_call 112; refine (HC.out _).mono ?_; rintro e w4 ⟨rfl, hb4⟩; have n0_ := Aside0.mk (below_keep hb4 HB.out); clear HB; have HB := n0_; clear n0_))
                    go_ret
                    exact ⟨rfl, HB.out⟩
                  | false =>
                    have HA5 := Aside0.mk (fun (j' : Nat) (hj' : j' < j + 1) => show pairBad a0 i j' = false from by
                      by_cases e : j' = j
                      · subst e
                        rw [HPB.out, hcp]
                        simp
                      · exact HA4.out j' (by omega))
                    clear hE HPB
                    go_wp2_with (first | (go_at_call 92; refine (HE1.out _).mono ?_; rintro e w3 ⟨rfl, ⟨nd3, rfl⟩⟩) | (go_at_call 112; refine (HC.out _).mono ?_; rintro e w4 ⟨rfl, hb4⟩))
                    have hb5 : Below wr.heap.size wr w4 := (pw_below_drewN (Below.refl _ _) nd3).trans hb4
                    go_roundg gn
                    case measure => omega
                    case rel => exact ⟨j + 1, by first | rfl | (simp; done), ⟨by have := HGj.out; omega⟩, ⟨HLo2.out.go hb5⟩, ⟨HLi2.out.go hb5⟩, ⟨below_keep hb5 HB.out⟩, HA5⟩
              · have e6 : decide (97 + (i : Int) < 97 + (j : Int)) = false := decide_eq_false (by omega)
                have HA5 := Aside0.mk (fun (j' : Nat) (hj' : j' < j + 1) => show pairBad a0 i j' = false from by
                  by_cases e : j' = j
                  · subst e
                    rw [HPB.out, decide_eq_false hij]
                    simp
                  · exact HA4.out j' (by omega))
                clear HPB
                go_wp2_with fail
                go_roundg gn
                case measure => omega
                case rel => exact ⟨j + 1, by first | rfl | (simp; done), ⟨by have := HGj.out; omega⟩, HLo2, HLi2, HB, HA5⟩
            · have f4 : decide ((j : Int) < (n : Int)) = false := decide_eq_false (by omega)
              have f5 : decide (j < n) = false := decide_eq_false hj
              have HA5 := Aside0.mk (fun (i' j' : Nat) (hi' : i' < i + 1) (hj' : j' < n) => show pairBad a0 i' j' = false from by
                by_cases e : i' = i
                · subst e
                  exact HA4.out j' (by have := HGj.out; omega)
                · exact HA2.out i' j' (by omega) hj')
              go_wp2_with fail
              go_roundg gm
              case measure => omega
              case rel => exact ⟨i + 1, by first | rfl | (simp; done), ⟨by have := HG.out; omega⟩, HLo2, HB, HA5⟩
        · have e4 : decide ((i : Int) < (n : Int)) = false := decide_eq_false (by omega)
          have e5 : decide (i < n) = false := decide_eq_false hi
          have hgood : anyBad a0 n = false := anyBad_none (fun i' j h1 h2 => HA2.out i' j (by have := HG.out; omega) h2)
          have hH := HH.out
          rw [hgood, if_neg (by decide)] at hH
          have HC := Aside0.mk (fun (W : World) => impl_haveHalves.calls k a0 r W hH)
          clear hH hgood
          go_wp2_with (go_at_call 113; refine (HC.out _).mono ?_; rintro e w3 ⟨rfl, hb3⟩)
          go_ret
          exact ⟨rfl, below_keep hb3 HB.out⟩
    · rw [if_neg hq] at h
      cases h
end Go.Proofs.YtcgoaipbfnhjhaaGreatDoor.Pr

/- How often a text stands in a short one: a small number. -/
namespace Go.Proofs.YtcgoaipbfnhjhaaGreatDoor.Pr
open Go.RowKit Go.Proofs.YtcgoaipbfnhjhaaGreatDoorW.PrintWords Go.Proofs.YtcgoaipbfnhjhaaGreatDoorW.PrintLast Go.Proofs.YtcgoaipbfnhjhaaGreatDoorW.PrintMore
set_option linter.unusedVariables false
set_option linter.unusedSimpArgs false

theorem encode_small {c : Int} (h0 : 0 ≤ c) (h1 : c < 128) : Utf8.encode c = ⟨#[c.toNat.toUInt8]⟩ := by
  have h : ∀ n : Fin 128, Utf8.encode (n.val : Int) = ⟨#[n.val.toUInt8]⟩ := by decide +kernel
  obtain ⟨n, rfl⟩ := Int.eq_ofNat_of_zero_le h0
  exact h ⟨n, by omega⟩
theorem count_small (w : ByteArray) (c : Int) (h0 : 0 ≤ c) (h1 : c < 128) (W : World) :
    Calls Tryz.prog 66 #[.string w, .string (Utf8.encode c)] W fun e w' => e = .returned (.int .i64 ((w.data.toList.count c.toNat.toUInt8 : Nat) : Int)) ∧ Drawn0 W w' := by
  rw [encode_small h0 h1]
  exact strings_Count.calls w _ _ W rfl

end Go.Proofs.YtcgoaipbfnhjhaaGreatDoor.Pr

/- What slices.IndexFunc and slices.ContainsFunc compute on bytes, for any predicate that leaves old memory as it was. -/
namespace Go.Proofs.YtcgoaipbfnhjhaaGreatDoor.Pr
open Go.RowKit Go.Proofs.YtcgoaipbfnhjhaaGreatDoorW.PrintWords Go.Proofs.YtcgoaipbfnhjhaaGreatDoorW.PrintLast Go.Proofs.YtcgoaipbfnhjhaaGreatDoorW.PrintMore
set_option linter.unusedVariables false
set_option linter.unusedSimpArgs false

set_option maxHeartbeats 2000000 in
set_option maxRecDepth 100000 in
theorem indexFunc_byte (A : Option Addr) (c : Nat) (zs : List Int) (p : Int → Bool) (g : Nat) (lb : Array Value) (eg : ∀ args w, (callFunc g args).run Tryz.prog w = .ok (.enter g args) w) (w : World)
    (hr : Kd.C (Kd.int .u8) w A zs.length zs) (hc : zs.length ≤ c) (hp : PredB g lb encB p zs w) :
    Calls Tryz.prog 107 #[.slice A zs.length c, .func (.func g) #[] lb] w fun e w' => e = .returned (.int .i64 (idxP p zs)) ∧ Below w.heap.size w w' := by
  have hbig : zs.length ≤ 9223372036854775807 := hr.2.1
  have HR := Aside0.mk hr
  have HP := Aside0.mk hp
  clear hr hp hc
  go_enter Tryz.func107, Tryz.ntmps107
  go_wp2
  go_loopg [5, 8] zs.length (fun gg _ s8 wr => ∃ i : Nat, s8 = .int .i64 i ∧ Aside0 (i ≤ zs.length) ∧ Aside0 (zs.length - i ≤ gg) ∧ Aside0 (Below w.heap.size w wr) ∧ Aside0 (∀ j (hj : j < zs.length), j < i → p zs[j] = false))
  case atStart => exact ⟨0, rfl, ⟨Nat.zero_le _⟩, ⟨by omega⟩, ⟨Below.refl _ w⟩, ⟨fun j _ hj => absurd hj (Nat.not_lt_zero _)⟩⟩
  case round =>
    obtain ⟨i, rfl, HI, HG, HB, HA⟩ := hrel
    by_cases hlt : i < zs.length
    · have c4b0 : decide ((i : Int) < (zs.length : Int)) = true := decide_eq_true (by omega)
      have c5b0 : decide (i < zs.length) = true := decide_eq_true hlt
      obtain ⟨ad, e, h0⟩ := Kd.at_int HR.out (i : Int) (by omega) (by omega)
      cases e
      rw [rdB zs i hlt, Int.toNat_natCast] at h0
      replace h0 := (HB.out.cell (World.block_lt_of_cell? w _ h0)).trans h0
      have hcall := HP.out wr zs[i] (List.getElem_mem hlt) HB.out
      have hn := HA.out
      obtain ⟨y, hy⟩ : ∃ y, zs[i] = y := ⟨_, rfl⟩
      have HY := Aside0.mk hy
      rw [hy] at h0 hcall
      have HN := Aside0.mk hn
      clear hn hy
      cases hq : p y with
      | true =>
        rw [hq] at hcall
        have HQ := Aside0.mk hq
        clear hq
        go_wp2_with (go_at_fn g; refine hcall.mono ?_; rintro e w' ⟨rfl, hb1⟩)
        have hb' := HB.out.trans (hb1.mono HB.out.size)
        go_ret
        exact ⟨congrArg (fun z => Ending.returned (Value.int .i64 z)) (idxP_at p zs i hlt (by rw [HY.out]; exact HQ.out) (fun j hj => HN.out j (by omega) hj)).symm, hb'⟩
      | false =>
        rw [hq] at hcall
        have HQ := Aside0.mk hq
        clear hq
        go_wp2_with (go_at_fn g; refine hcall.mono ?_; rintro e w' ⟨rfl, hb1⟩)
        have hb' := HB.out.trans (hb1.mono HB.out.size)
        go_roundg (zs.length - (i + 1))
        case measure => have := HG.out; omega
        case rel =>
          refine ⟨i + 1, by go_num, ⟨by omega⟩, ⟨by omega⟩, ⟨hb'⟩, ⟨fun j hj hji => ?_⟩⟩
          by_cases e : j = i
          · subst e
            rw [HY.out]; exact HQ.out
          · exact HN.out j hj (by omega)
    · have c4b0 : decide ((i : Int) < (zs.length : Int)) = false := decide_eq_false (by omega)
      have c5b0 : decide (i < zs.length) = false := decide_eq_false hlt
      have hall := Aside0.mk (idxP_none p zs (fun x hx => by
        obtain ⟨j, hj, rfl⟩ := List.getElem_of_mem hx
        exact HA.out j hj (by omega)))
      have HB2 := HB
      clear HA HP HR
      go_wp2
      go_ret
      exact ⟨congrArg (fun z => Ending.returned (Value.int .i64 z)) hall.out.symm, HB2.out⟩

set_option maxHeartbeats 2000000 in
theorem containsFunc_byte (A : Option Addr) (c : Nat) (zs : List Int) (p : Int → Bool) (g : Nat) (lb : Array Value) (eg : ∀ args w, (callFunc g args).run Tryz.prog w = .ok (.enter g args) w) (w : World)
    (hr : Kd.C (Kd.int .u8) w A zs.length zs) (hc : zs.length ≤ c) (hp : PredB g lb encB p zs w) :
    Calls Tryz.prog 64 #[.slice A zs.length c, .func (.func g) #[] lb] w fun e w' => e = .returned (.bool (zs.any p)) ∧ Below w.heap.size w w' := by
  rw [← idxP_nonneg p zs]
  have hcon := indexFunc_byte A c zs p g lb eg w hr hc hp
  clear hr hp
  generalize idxP p zs = r at hcon ⊢
  go_enter Tryz.func64, Tryz.ntmps64
  go_wp2_with (go_at_call 107; refine hcon.mono ?_; rintro e w' ⟨rfl, hb'⟩)
  go_ret
  exact ⟨by simp, hb'⟩
end Go.Proofs.YtcgoaipbfnhjhaaGreatDoor.Pr

/- What the library's Trim computes at the first eight letters. -/
namespace Go.Proofs.YtcgoaipbfnhjhaaGreatDoor.Pr
open Go.RowKit Go.Proofs.YtcgoaipbfnhjhaaGreatDoorW.PrintWords Go.Proofs.YtcgoaipbfnhjhaaGreatDoorW.PrintLast Go.Proofs.YtcgoaipbfnhjhaaGreatDoorW.PrintMore
set_option linter.unusedVariables false
set_option linter.unusedSimpArgs false

def strings_Trim.f (a0 : ByteArray) (a1 : ByteArray) : Option (ByteArray) := if a0.size ≤ 1048576 ∧ a1 = ⟨#[97, 98, 99, 100, 101, 102, 103, 104]⟩ then some ⟨(Lib.trimS a0.data.toList [97, 98, 99, 100, 101, 102, 103, 104]).toArray⟩ else none
theorem strings_Trim.calls (a0 : ByteArray) (a1 : ByteArray) (r : ByteArray) (w : World) (h : strings_Trim.f a0 a1 = some r) :
    Calls Tryz.prog 62 #[.string a0, .string a1] w fun e w' => e = .returned (.string r) ∧ Below w.heap.size w w' := by
  unfold strings_Trim.f at h
  by_cases hs : a0.size ≤ 1048576 ∧ a1 = ⟨#[97, 98, 99, 100, 101, 102, 103, 104]⟩
  · rw [if_pos hs] at h
    obtain rfl := Option.some.inj h
    obtain ⟨h1, rfl⟩ := hs
    exact Any.strings_Trim_laid Tryz.l160 (by kernel_rfl) a0 _ w (by omega) (by decide) (ascii_of_all (by decide))
  · rw [if_neg hs] at h; cases h
end Go.Proofs.YtcgoaipbfnhjhaaGreatDoor.Pr

-- Written by a program for this claim.
namespace Go.Proofs.YtcgoaipbfnhjhaaGreatDoor.Pr
open Go.RowKit Go.Proofs.YtcgoaipbfnhjhaaGreatDoorW.PrintWords Go.Proofs.YtcgoaipbfnhjhaaGreatDoorW.PrintLast Go.Proofs.YtcgoaipbfnhjhaaGreatDoorW.PrintMore
attribute [local go_sem] max2_int min2_int max_two min_two max_three min_three max_four min_four   -- for this text's walks alone
set_option linter.unusedVariables false
set_option linter.unusedSimpArgs false

/-! ### impl_named: function 63 -/
def impl_named.l0 : Nat → ByteArray → ByteArray → List Int → Int → Int → Option (ByteArray)
  | 0, _, _, _, _, _ => none
  | k + 1, x0, x3, x4, x9, x10 => if x10 < x9 then (if 0 ≤ x10 then (if x10 < (x0.size : Int) then ((strings_IndexByte.f x3 (bt x0 x10)).bind fun t106 => (if t106 < 0 then (if x10 ≤ (wrap64 (x10 + 1)) then (if (wrap64 (x10 + 1)) ≤ (x0.size : Int) then (if x3.size + (x0.extract (x10 : Int).toNat ((wrap64 (x10 + 1)) : Int).toNat).size ≤ 9223372036854775807 then (if x4.length < 140737488355328 then (impl_named.l0 k x0 (x3 ++ (x0.extract (x10 : Int).toNat ((wrap64 (x10 + 1)) : Int).toNat)) (x4 ++ [(97 + ((x3.size : Int))) % 256]) x9 (wrap64 (x10 + 1))) else (none)) else (none)) else (none)) else (none)) else (if x4.length < 140737488355328 then (impl_named.l0 k x0 x3 (x4 ++ [(97 + (t106)) % 256]) x9 (wrap64 (x10 + 1))) else (none)))) else (none)) else (none)) else (some (strOfNums x4))
def impl_named.f (k : Nat) (a0 : ByteArray) : Option (ByteArray) := impl_named.l0 k a0 (⟨#[]⟩ : ByteArray) (([] : List Int)) (a0.size : Int) 0
theorem impl_named.mono_l : ∀ k, (∀ y0 y1 y2 y3 y4, LeO (impl_named.l0 k y0 y1 y2 y3 y4) (impl_named.l0 (k + 1) y0 y1 y2 y3 y4))
  | 0 => fun _ _ _ _ _ r h => by simp [impl_named.l0] at h
  | k + 1 => by
    have ih0 := impl_named.mono_l k
    · intro y0 y1 y2 y3 y4
      unfold impl_named.l0
      repeat' first
      | (with_reducible exact ih0 _ _ _ _ _)
      | (with_reducible exact LeO.refl _)
      | (with_reducible exact LeO.none _)
      | (with_reducible refine LeO.ite ?_ ?_)
      | (with_reducible refine LeO.bind ?_ (fun _ => ?_))
      | exact ih0 _ _ _ _ _
      | exact LeO.none _
      | refine LeO.ite ?_ ?_
      | refine LeO.bind ?_ (fun _ => ?_)
theorem impl_named.mono : ∀ a0 k, LeO (impl_named.f k a0) (impl_named.f (k + 1) a0) := by
  intro a0 k
  have ih0 := impl_named.mono_l k
  unfold impl_named.f
  repeat' first
      | (with_reducible exact ih0 _ _ _ _ _)
      | (with_reducible exact LeO.refl _)
      | (with_reducible exact LeO.none _)
      | (with_reducible refine LeO.ite ?_ ?_)
      | (with_reducible refine LeO.bind ?_ (fun _ => ?_))
      | exact ih0 _ _ _ _ _
      | exact LeO.none _
      | refine LeO.ite ?_ ?_
      | refine LeO.bind ?_ (fun _ => ?_)
set_option maxHeartbeats 8000000 in
set_option maxRecDepth 100000 in
theorem impl_named.calls (k : Nat) (a0 : ByteArray) (r : ByteArray) (w : World) (h : impl_named.f k a0 = some r) :
    Calls Tryz.prog 63 #[.string a0] w fun e w' => e = .returned (.string r) ∧ Below w.heap.size w w' := by
  have HB := Aside0.mk (Below.refl w.heap.size w)
  have H : (impl_named.l0 k a0 (⟨#[]⟩ : ByteArray) (([] : List Int)) (a0.size : Int) 0) = some r := h
  clear h
  obtain ⟨y103, hy103⟩ : ∃ y_ : List Int, y_ = (([] : List Int)) := ⟨_, rfl⟩
  replace H : (impl_named.l0 k a0 (⟨#[]⟩ : ByteArray) y103 (a0.size : Int) 0) = some r := by first | (rw [hy103]; with_reducible exact H) | (have H2_ := (Option.bind_some _ _).symm.trans H; rw [hy103]; with_reducible exact H2_) | (have H2_ := (Option.bind_some _ _).symm.trans H; with_reducible exact H2_) | with_reducible exact H | (rw [hy103]; exact H) | exact H
  have Ny103 := Aside0.mk hy103
  clear hy103
  have H' := Aside0.mk H
  clear H
  go_enter Tryz.func63, Tryz.ntmps63
  go_wp2_with (first | ((with_reducible refine gate_dst (N := 7) rfl ?_); refine Kd.R_lit (Kd.int .u8) _ 5 ?hg (N := 7) ?hd (xs := ([] : List Int)) (inner := []) (ok := fun _ => True) (okp := fun _ => True) ?hr ?hp (fun _ hk => hk) trivial (Below.refl _ _) (Nat.le_refl _) (by simp) ?_; (case hd => rfl); (case hg => rfl); (case hr => first | (go_simp; done) | (go_simp; rfl)); (case hp => exact (Reps.none _ _)); intro v104 w2 ho3 hb hg_ hnew_; clear hg_ hnew_; (first | rw [← Ny103.out] at ho3 | (simp only [Int.reduceToNat] at ho3; rw [← Ny103.out] at ho3)); have n0_ := Aside0.mk (Kd.R_lower ho3 (below_size (by repeat (first | (with_reducible first | exact HB.out | apply below_alloc | apply pw_below_drewN | apply below_drew1) | exact HB.out)))); have n1_ := Aside0.mk (below_step (by repeat (first | (with_reducible first | exact HB.out | apply below_alloc | apply pw_below_drewN | apply below_drew1) | exact HB.out)) hb); clear HB; have HO105 := n0_; have HB := n1_; clear n0_ n1_; clear hb ho3))
  go_loopg [3, 4, 10] k (fun kq v3 v4 v10 w' => ∃ (x3_1 : ByteArray) (x4_1 : List Int) (x10_1 : Int), v3 = .string x3_1 ∧ v10 = .int .i64 x10_1 ∧ Aside0 (impl_named.l0 kq a0 x3_1 x4_1 (a0.size : Int) x10_1 = some r) ∧ Aside0 (kq ≤ k) ∧ Aside0 (Kd.R (Kd.int .u8) 5 w' w.heap.size (fun _ => True) v4 x4_1) ∧ Aside0 (Below w.heap.size w w'))
  case atStart => exact ⟨((⟨#[]⟩ : ByteArray)), (y103), (0), (by first | rfl | (simp; done) | (simp [*]; done)), (by first | rfl | (simp; done) | (simp [*]; done)), H', ⟨Nat.le_refl _⟩, ⟨by (with_reducible repeat (first | apply Kd.R_alloc | apply Kd.R_drewN | apply Kd.R_drew)); exact HO105.out⟩, ⟨by repeat (first | (with_reducible first | exact HB.out | apply below_alloc | apply pw_below_drewN | apply below_drew1) | exact HB.out)⟩⟩
  case round =>
    clear H'
    try clear p2
    obtain ⟨x3_1, x4_1, x10_1, rfl, rfl, HA, HK1, HO_4, HB⟩ := hrel
    cases gk with
    | zero => exact absurd HA.out (by simp [impl_named.l0])
    | succ k1 =>
      have H := HA.out
      clear HA
      simp only [impl_named.l0] at H
      by_cases c4 : x10_1 < (a0.size : Int)
      · rw [if_pos c4] at H
        have c4b0 : decide (x10_1 < (a0.size : Int)) = true := decide_eq_true c4
        clear c4
        by_cases c5 : 0 ≤ x10_1
        · rw [if_pos c5] at H
          have c5b0 : decide (0 ≤ x10_1) = true := decide_eq_true c5
          clear c5
          by_cases c6 : x10_1 < (a0.size : Int)
          · rw [if_pos c6] at H
            have c6b0 : decide (x10_1 < (a0.size : Int)) = true := decide_eq_true c6
            clear c6
            replace H := Option.bind_eq_some_iff.mp H
            obtain ⟨t106, A80, H⟩ := H
            replace H : (if t106 < 0 then (if x10_1 ≤ (wrap64 (x10_1 + 1)) then (if (wrap64 (x10_1 + 1)) ≤ (a0.size : Int) then (if x3_1.size + (a0.extract (x10_1 : Int).toNat ((wrap64 (x10_1 + 1)) : Int).toNat).size ≤ 9223372036854775807 then (if x4_1.length < 140737488355328 then (impl_named.l0 k1 a0 (x3_1 ++ (a0.extract (x10_1 : Int).toNat ((wrap64 (x10_1 + 1)) : Int).toNat)) (x4_1 ++ [(97 + ((x3_1.size : Int))) % 256]) (a0.size : Int) (wrap64 (x10_1 + 1))) else (none)) else (none)) else (none)) else (none)) else (if x4_1.length < 140737488355328 then (impl_named.l0 k1 a0 x3_1 (x4_1 ++ [(97 + (t106)) % 256]) (a0.size : Int) (wrap64 (x10_1 + 1))) else (none))) = some r := H
            have A8 := Aside0.mk A80
            clear A80
            by_cases c9 : t106 < 0
            · rw [if_pos c9] at H
              have c9b0 : decide (t106 < 0) = true := decide_eq_true c9
              clear c9
              have c10b0 := eq_true (of_decide_eq_true (by first | (with_reducible assumption) | assumption) : 0 ≤ x10_1)
              by_cases c11 : x10_1 ≤ (wrap64 (x10_1 + 1))
              · rw [if_pos c11] at H
                have c11b0 := eq_true c11
                have c11b1 : decide (x10_1 ≤ (wrap64 (x10_1 + 1))) = true := decide_eq_true c11
                by_cases c12 : (wrap64 (x10_1 + 1)) ≤ (a0.size : Int)
                · rw [if_pos c12] at H
                  have c12b0 := eq_true c12
                  have c12b1 : decide ((wrap64 (x10_1 + 1)) ≤ (a0.size : Int)) = true := decide_eq_true c12
                  by_cases c13 : x3_1.size + (a0.extract (x10_1 : Int).toNat ((wrap64 (x10_1 + 1)) : Int).toNat).size ≤ 9223372036854775807
                  · rw [if_pos c13] at H
                    have c13b0 := eq_true c13
                    have c13b1 : decide (x3_1.size + (a0.extract (x10_1 : Int).toNat ((wrap64 (x10_1 + 1)) : Int).toNat).size ≤ 9223372036854775807) = true := decide_eq_true c13
                    try have c13b2 : (9223372036854775807 < x3_1.size + (a0.extract (x10_1 : Int).toNat ((wrap64 (x10_1 + 1)) : Int).toNat).size) = False := eq_false (Nat.not_lt.2 c13)
                    by_cases c14 : x4_1.length < 140737488355328
                    · rw [if_pos c14] at H
                      have LMc14 := Aside0.mk c14
                      clear c14
                      obtain ⟨y107, hy107⟩ : ∃ y_ : List Int, y_ = (x4_1 ++ [(97 + ((x3_1.size : Int))) % 256]) := ⟨_, rfl⟩
                      replace H : (impl_named.l0 k1 a0 (x3_1 ++ (a0.extract (x10_1 : Int).toNat ((wrap64 (x10_1 + 1)) : Int).toNat)) y107 (a0.size : Int) (wrap64 (x10_1 + 1))) = some r := by first | (rw [hy107]; with_reducible exact H) | (have H2_ := (Option.bind_some _ _).symm.trans H; rw [hy107]; with_reducible exact H2_) | (have H2_ := (Option.bind_some _ _).symm.trans H; with_reducible exact H2_) | with_reducible exact H | (rw [hy107]; exact H) | exact H
                      have Ny107 := Aside0.mk hy107
                      clear hy107
                      have H' := Aside0.mk H
                      clear H
                      have p7 : 0 ≤ (x10_1 : Int) := of_decide_eq_true (by first | (with_reducible assumption) | assumption)
                      have q7 : x10_1 < (a0.size : Int) := of_decide_eq_true (by first | (with_reducible assumption) | assumption)
                      have hx7 := bt_at a0 x10_1
                      replace p7 := eq_true p7
                      replace q7 := eq_true q7
                      go_wp2_with (first | ((with_reducible refine gate_callee (f := 85) rfl ?_); refine goesL_ (some 17) rfl rfl Tryz.func85 (by kernel_rfl) rfl #[.string x3_1, .int .u8 (bt a0 x10_1)] rfl (by (try simp only [List.map_toArray, List.map_cons, List.map_nil]); first | done | rfl | (simp only [List.length_drop, List.length_take]; rfl)) ?_; (with_reducible refine (strings_IndexByte.calls x3_1 (bt a0 x10_1) t106 _ A8.out).mono ?_); rintro e w' ⟨rfl, ⟨nd, rfl⟩⟩; refine ⟨_, rfl, ?_⟩) | ((with_reducible refine gate_builtin (b := .append) (xs := #[.tmp 29, .tmp 33]) rfl ?_); at_builtin; refine Kd.R_append (Kd.int .u8) (w0 := w) w.heap.size rfl (.tmp 29) (.tmp 33) 22 5 (.int .u8 0) 1 rfl Tryz.underlying22 info5 rfl (by decide) (by omega) u4 x4_1 ((97 + ((x3_1.size : Int))) % 256) [.int .u8 ((97 + ((x3_1.size : Int))) % 256)] (fun _ => True) (fun _ => False) rfl rfl ?aP (fun _ hk => hk.elim) ?aF ?aO ?aB ?aS ?aL ?_; (case aP => exact rfl); (case aB => exact (by repeat (first | (with_reducible first | exact HB.out | apply below_alloc | apply pw_below_drewN | apply below_drew1) | exact HB.out))); (case aF => exact (fun _ _ => trivial)); (case aO => exact (by (with_reducible repeat (first | apply Kd.R_alloc | apply Kd.R_drewN | apply Kd.R_drew)); exact HO_4.out)); (case aS => exact (below_size (by repeat (first | (with_reducible first | exact HB.out | apply below_alloc | apply pw_below_drewN | apply below_drew1) | exact HB.out)))); (case aL => have := LMc14.out; omega); intro v108 w15 ho hb hg hat; rw [← Ny107.out] at ho; have n0_ := Aside0.mk (hb); have n1_ := Aside0.mk (ho); clear HB; clear HO_4; have HB := n0_; have HO109 := n1_; clear n0_ n1_; clear ho hb hg hat))
                      go_roundg k1
                      case measure => have := HK1.out; omega
                      case rel => exact ⟨(x3_1 ++ (a0.extract (x10_1 : Int).toNat ((wrap64 (x10_1 + 1)) : Int).toNat)), (y107), (wrap64 (x10_1 + 1)), (by first | rfl | (simp; done) | (simp [*]; done)), (by first | rfl | (simp; done) | (simp [*]; done)), H', ⟨by have := HK1.out; omega⟩, ⟨by (with_reducible repeat (first | apply Kd.R_alloc | apply Kd.R_drewN | apply Kd.R_drew)); exact HO109.out⟩, ⟨by repeat (first | (with_reducible first | exact HB.out | apply below_alloc | apply pw_below_drewN | apply below_drew1) | exact HB.out)⟩⟩
                    · rw [if_neg c14] at H
                      exact absurd H (by simp)
                  · rw [if_neg c13] at H
                    exact absurd H (by simp)
                · rw [if_neg c12] at H
                  exact absurd H (by simp)
              · rw [if_neg c11] at H
                exact absurd H (by simp)
            · rw [if_neg c9] at H
              have c9b0 : decide (t106 < 0) = false := decide_eq_false c9
              clear c9
              by_cases c16 : x4_1.length < 140737488355328
              · rw [if_pos c16] at H
                have LMc16 := Aside0.mk c16
                clear c16
                obtain ⟨y110, hy110⟩ : ∃ y_ : List Int, y_ = (x4_1 ++ [(97 + (t106)) % 256]) := ⟨_, rfl⟩
                replace H : (impl_named.l0 k1 a0 x3_1 y110 (a0.size : Int) (wrap64 (x10_1 + 1))) = some r := by first | (rw [hy110]; with_reducible exact H) | (have H2_ := (Option.bind_some _ _).symm.trans H; rw [hy110]; with_reducible exact H2_) | (have H2_ := (Option.bind_some _ _).symm.trans H; with_reducible exact H2_) | with_reducible exact H | (rw [hy110]; exact H) | exact H
                have Ny110 := Aside0.mk hy110
                clear hy110
                have H' := Aside0.mk H
                clear H
                have p7 : 0 ≤ (x10_1 : Int) := of_decide_eq_true (by first | (with_reducible assumption) | assumption)
                have q7 : x10_1 < (a0.size : Int) := of_decide_eq_true (by first | (with_reducible assumption) | assumption)
                have hx7 := bt_at a0 x10_1
                replace p7 := eq_true p7
                replace q7 := eq_true q7
                go_wp2_with (first | ((with_reducible refine gate_callee (f := 85) rfl ?_); refine goesL_ (some 17) rfl rfl Tryz.func85 (by kernel_rfl) rfl #[.string x3_1, .int .u8 (bt a0 x10_1)] rfl (by (try simp only [List.map_toArray, List.map_cons, List.map_nil]); first | done | rfl | (simp only [List.length_drop, List.length_take]; rfl)) ?_; (with_reducible refine (strings_IndexByte.calls x3_1 (bt a0 x10_1) t106 _ A8.out).mono ?_); rintro e w' ⟨rfl, ⟨nd, rfl⟩⟩; refine ⟨_, rfl, ?_⟩) | ((with_reducible refine gate_builtin (b := .append) (xs := #[.tmp 29, .tmp 33]) rfl ?_); at_builtin; refine Kd.R_append (Kd.int .u8) (w0 := w) w.heap.size rfl (.tmp 29) (.tmp 33) 22 5 (.int .u8 0) 1 rfl Tryz.underlying22 info5 rfl (by decide) (by omega) u4 x4_1 ((97 + (t106)) % 256) [.int .u8 ((97 + (t106)) % 256)] (fun _ => True) (fun _ => False) rfl rfl ?aP (fun _ hk => hk.elim) ?aF ?aO ?aB ?aS ?aL ?_; (case aP => exact rfl); (case aB => exact (by repeat (first | (with_reducible first | exact HB.out | apply below_alloc | apply pw_below_drewN | apply below_drew1) | exact HB.out))); (case aF => exact (fun _ _ => trivial)); (case aO => exact (by (with_reducible repeat (first | apply Kd.R_alloc | apply Kd.R_drewN | apply Kd.R_drew)); exact HO_4.out)); (case aS => exact (below_size (by repeat (first | (with_reducible first | exact HB.out | apply below_alloc | apply pw_below_drewN | apply below_drew1) | exact HB.out)))); (case aL => have := LMc16.out; omega); intro v111 w17 ho hb hg hat; rw [← Ny110.out] at ho; have n0_ := Aside0.mk (hb); have n1_ := Aside0.mk (ho); clear HB; clear HO_4; have HB := n0_; have HO112 := n1_; clear n0_ n1_; clear ho hb hg hat))
                go_roundg k1
                case measure => have := HK1.out; omega
                case rel => exact ⟨(x3_1), (y110), (wrap64 (x10_1 + 1)), (by first | rfl | (simp; done) | (simp [*]; done)), (by first | rfl | (simp; done) | (simp [*]; done)), H', ⟨by have := HK1.out; omega⟩, ⟨by (with_reducible repeat (first | apply Kd.R_alloc | apply Kd.R_drewN | apply Kd.R_drew)); exact HO112.out⟩, ⟨by repeat (first | (with_reducible first | exact HB.out | apply below_alloc | apply pw_below_drewN | apply below_drew1) | exact HB.out)⟩⟩
              · rw [if_neg c16] at H
                exact absurd H (by simp)
          · rw [if_neg c6] at H
            exact absurd H (by simp)
        · rw [if_neg c5] at H
          exact absurd H (by simp)
      · rw [if_neg c4] at H
        have c4b0 : decide (x10_1 < (a0.size : Int)) = false := decide_eq_false c4
        clear c4
        obtain rfl := Option.some.inj H
        have hcv18 := own_string (P := Tryz.prog) Tryz.underlying22 Tryz.underlying5 Tryz.underlying9 (Kd.own_of_R HO_4.out)
        go_wp2
        go_ret
        exact ⟨by first | rfl | (simp [errW_none, errW_some] <;> rfl) | (simp [*, errW_none, errW_some] <;> rfl), by repeat (first | (with_reducible first | exact HB.out | apply below_alloc | apply pw_below_drewN | apply below_drew1) | exact HB.out)⟩

end Go.Proofs.YtcgoaipbfnhjhaaGreatDoor.Pr

/- What the program's IsLoop computes. -/
namespace Go.Proofs.YtcgoaipbfnhjhaaGreatDoor.Pr
open Go.RowKit Go.Proofs.YtcgoaipbfnhjhaaGreatDoorW.PrintWords Go.Proofs.YtcgoaipbfnhjhaaGreatDoorW.PrintLast Go.Proofs.YtcgoaipbfnhjhaaGreatDoorW.PrintMore
set_option linter.unusedVariables false
set_option maxRecDepth 100000
set_option linter.unusedSimpArgs false

/-- A byte that a text has not just twice. -/
def missB (w : ByteArray) (c : Int) : Bool := (((w.data.toList.count c.toNat.toUInt8 : Nat) : Int) != 2)
set_option maxHeartbeats 2000000 in
theorem loop_pred (w0 : ByteArray) (B : Nat) (zs : List Int) (hz : ∀ x ∈ zs, 0 ≤ x ∧ x < 128) (w : World) (hB : B < w.heap.size) (hcell : w.cell? ⟨B, 0, none⟩ = some (.string w0)) :
    PredB 65 #[.pointer (some ⟨B, 0, none⟩)] encB (missB w0) zs w := fun W x hx hb => by
  have hc : W.cell? ⟨B, 0, none⟩ = some (.string w0) := (hb.cell (p := ⟨B, 0, none⟩) hB).trans hcell
  obtain ⟨h0, h1⟩ := hz x hx
  show Calls Tryz.prog 65 #[.int .u8 x, .pointer (some ⟨B, 0, none⟩)] W fun e w' => e = .returned (.bool (missB w0 x)) ∧ Below W.heap.size W w'
  unfold missB
  have HC := Aside0.mk (fun (W1 : World) => count_small w0 x h0 h1 W1)
  generalize ((w0.data.toList.count x.toNat.toUInt8 : Nat) : Int) = r at HC ⊢
  clear hcell hb hx hz
  go_enter Tryz.func65, Tryz.ntmps65
  go_wp2_with (go_at_call 66; refine (HC.out _).mono ?_; rintro e w' ⟨rfl, ⟨nd, rfl⟩⟩)
  go_ret
  exact ⟨by simp, pw_below_drewN (Below.refl _ _) _⟩

/-- What the program's IsLoop tells. -/
def impl_IsLoop.f (k : Nat) (a0 : ByteArray) : Option (Bool) :=
  if a0.size ≤ 16 then
    (if (Lib.trimS a0.data.toList [97, 98, 99, 100, 101, 102, 103, 104] = [] ∧ ∀ x ∈ bytesOf a0, 0 ≤ x ∧ x < 128) then ((impl_named.f k a0).bind fun t => if t = a0 then some (!((bytesOf a0).any (missB a0))) else some false)
    else if Lib.trimS a0.data.toList [97, 98, 99, 100, 101, 102, 103, 104] = [] then none else some false)
  else some false
theorem impl_IsLoop.mono : ∀ a0 k, LeO (impl_IsLoop.f k a0) (impl_IsLoop.f (k + 1) a0) := by
  intro a0 k
  unfold impl_IsLoop.f
  exact LeO.ite (LeO.ite (LeO.bind (impl_named.mono _ _) (fun _ => LeO.refl _)) (LeO.refl _)) (LeO.refl _)

set_option maxHeartbeats 4000000 in
theorem impl_IsLoop.calls (k : Nat) (a0 : ByteArray) (r : Bool) (w : World) (h : impl_IsLoop.f k a0 = some r) :
    Calls Tryz.prog 12 #[.string a0] w fun e w' => e = .returned (.bool r) ∧ Below w.heap.size w w' := by
  have hb0 : Below w.heap.size w (w.alloc (.cells #[.string a0] 9)) := below_alloc (Below.refl _ _) _
  have hs0 : w.heap.size < (w.alloc (.cells #[.string a0] 9)).heap.size := by simp
  have hx0 : (w.alloc (.cells #[.string a0] 9)).cell? ⟨w.heap.size, 0, none⟩ = some (.string a0) := by simp
  have eg : ∀ args w, (callFunc 65 args).run Tryz.prog w = .ok (.enter 65 args) w := enters_of Tryz.func65 (by kernel_rfl) rfl
  unfold impl_IsLoop.f at h
  by_cases hl : a0.size ≤ 16
  · rw [if_pos hl] at h
    have d1 : decide ((a0.size : Int) > 16) = false := decide_eq_false (by omega)
    have hT := Aside0.mk (fun (W : World) => strings_Trim.calls a0 _ _ W (if_pos ⟨by omega, rfl⟩))
    by_cases ht : Lib.trimS a0.data.toList [97, 98, 99, 100, 101, 102, 103, 104] = []
    · by_cases hz : ∀ x ∈ bytesOf a0, 0 ≤ x ∧ x < 128
      · rw [if_pos ⟨ht, hz⟩] at h
        rw [ht] at hT
        obtain ⟨t, hn, h⟩ := Option.bind_eq_some_iff.mp h
        have hN := Aside0.mk (fun (W : World) => impl_named.calls k a0 t W hn)
        go_enter Tryz.func12, Tryz.ntmps12
        have d2 : ((([] : List UInt8) != []) = true) = False := by simp
        have HB0 := Aside0.mk hb0
        clear hb0 ht hn
        by_cases e : t = a0
        · subst e
          rw [if_pos rfl] at h
          have hC := Aside0.mk (fun (W : World) (hB : w.heap.size < W.heap.size) (hc : W.cell? ⟨w.heap.size, 0, none⟩ = some (.string t)) (A : Option Addr) (c : Nat) (hr : Kd.C (Kd.int .u8) W A (bytesOf t).length (bytesOf t)) (hcap : (bytesOf t).length ≤ c) =>
            containsFunc_byte A c (bytesOf t) (missB t) 65 #[.pointer (some ⟨w.heap.size, 0, none⟩)] eg W hr hcap (loop_pred t w.heap.size (bytesOf t) hz W hB hc))
          have hlen := bytesOf_length t
          generalize (bytesOf t).any (missB t) = b at hC h
          obtain rfl := Option.some.inj h
          clear h eg hz
          go_wp2_with fail
          go_region_held3 (fun w' => w'.cell? ⟨w.heap.size, 0, none⟩ = some (.string t) ∧ w.heap.size < w'.heap.size ∧ Below w.heap.size w w')
            ((go_split_ands; refine ⟨?_, ?_, ?_⟩ <;> (first | assumption | exact HB0.out | exact below_drew HB0.out | exact below_drew (by assumption) | exact cell_keep (by assumption) (by assumption) (by assumption) | exact lt_keep (by assumption) (by assumption) | exact below_keep (by assumption) (by assumption) | (simp [*]; done))))
            (first | (go_at_call 62; refine (hT.out _).mono ?_; rintro e w' ⟨rfl, hb⟩) | (go_at_call 63; refine (hN.out _).mono ?_; rintro e w' ⟨rfl, hb2⟩))
          go_split_ands
          rename_i wr hx1 hx2 hx3
          go_wp2_with fail
          rw [print_bytes 9 22 5 Tryz.underlying9 Tryz.underlying22 Tryz.underlying5]
          simp only [Result.andThen]
          rw [Oper.upon_value]
          have hbb : Below w'.heap.size w' (Lib.bytesWorld w' 5 t) := bytes_below (Below.refl _ _) (Nat.le_refl _) 5 t
          have hCC := hC.out _ (lt_keep hbb hx2) (cell_keep hbb hx2 hx1) _ _ (bytes_C w' 5 t (by omega)) (by rw [hlen]; exact grownCap_ge w' t.size 0 5)
          rw [hlen] at hCC
          go_wp2_with (go_at_call 64; refine hCC.mono ?_; rintro e w2 ⟨rfl, hb3⟩)
          go_ret
          exact ⟨by simp, below_keep hb3 (below_keep hbb hx3)⟩
        · rw [if_neg e] at h
          obtain rfl := Option.some.inj h
          have e1 := toList_ne e
          have e2 : (t.toList == a0.toList) = false := beq_eq_false_iff_ne.mpr e1
          clear h eg hz e e1
          go_wp2_with fail
          go_region_held3 (fun w' => w'.cell? ⟨w.heap.size, 0, none⟩ = some (.string a0) ∧ w.heap.size < w'.heap.size ∧ Below w.heap.size w w')
            ((go_split_ands; refine ⟨?_, ?_, ?_⟩ <;> (first | assumption | exact HB0.out | exact below_drew HB0.out | exact below_drew (by assumption) | exact cell_keep (by assumption) (by assumption) (by assumption) | exact lt_keep (by assumption) (by assumption) | exact below_keep (by assumption) (by assumption) | (simp [*]; done))))
            (first | (go_at_call 62; refine (hT.out _).mono ?_; rintro e w' ⟨rfl, hb⟩) | (go_at_call 63; refine (hN.out _).mono ?_; rintro e w' ⟨rfl, hb2⟩))
          go_split_ands
          rename_i wr hx1 hx2 hx3
          go_wp2_with fail
          go_ret
          exact ⟨rfl, hx3⟩
      · rw [if_neg (fun e => hz e.2), if_pos ht] at h; cases h
    · rw [if_neg (fun e => ht e.1), if_neg ht] at h
      obtain rfl := Option.some.inj h
      have HB0 := Aside0.mk hb0
      generalize Lib.trimS a0.data.toList [97, 98, 99, 100, 101, 102, 103, 104] = l at ht hT
      obtain ⟨s, hs⟩ : ∃ s : ByteArray, s = ⟨l.toArray⟩ := ⟨_, rfl⟩
      rw [← hs] at hT
      have hsl : s.toList = l := by rw [hs, ByteArray.toList_eq]
      have e1 : s.toList.isEmpty = false := by rw [hsl]; cases l with
        | nil => exact absurd rfl ht
        | cons y ys => rfl
      have e2 : (s.toList == []) = false := by rw [hsl]; cases l with
        | nil => exact absurd rfl ht
        | cons y ys => rfl
      clear h eg hb0 ht hs hsl
      go_enter Tryz.func12, Tryz.ntmps12
      go_wp2_with fail
      go_region_with ((go_at_call 62; refine (hT.out _).mono ?_; rintro e w' ⟨rfl, hb⟩))
      all_goals (go_wp2_with fail; go_ret; exact ⟨rfl, below_keep hb (below_drew HB0.out)⟩)
  · rw [if_neg hl] at h
    obtain rfl := Option.some.inj h
    have d1 : decide ((a0.size : Int) > 16) = true := decide_eq_true (by omega)
    have HB0 := Aside0.mk hb0
    clear h eg hb0
    go_enter Tryz.func12, Tryz.ntmps12
    go_wp2_with fail
    go_region_with ((fail))
    all_goals (go_wp2_with fail; go_ret; exact ⟨rfl, below_drew HB0.out⟩)
end Go.Proofs.YtcgoaipbfnhjhaaGreatDoor.Pr

-- Written by a program for this claim.
namespace Go.Proofs.YtcgoaipbfnhjhaaGreatDoor.Pr
open Go.RowKit Go.Proofs.YtcgoaipbfnhjhaaGreatDoorW.PrintWords Go.Proofs.YtcgoaipbfnhjhaaGreatDoorW.PrintLast Go.Proofs.YtcgoaipbfnhjhaaGreatDoorW.PrintMore
attribute [local go_sem] max2_int min2_int max_two min_two max_three min_three max_four min_four   -- for this text's walks alone
set_option linter.unusedVariables false
set_option linter.unusedSimpArgs false

/-! ### impl_CanBeDrawn: function 27 -/
def impl_CanBeDrawn.f (k : Nat) (a0 : ByteArray) : Option (Bool × Bool) := (impl_IsLoop.f k a0).bind fun t130 => (if t130 = true then ((impl_canBeDrawn.f k a0).bind fun t131 => (some (t131, true))) else (some (false, false)))
theorem impl_CanBeDrawn.mono : ∀ a0 k, LeO (impl_CanBeDrawn.f k a0) (impl_CanBeDrawn.f (k + 1) a0) := by
  intro a0 k
  unfold impl_CanBeDrawn.f
  repeat' first
      | (with_reducible exact impl_IsLoop.mono _ _)
      | (with_reducible exact impl_canBeDrawn.mono _ _)
      | (with_reducible exact LeO.refl _)
      | (with_reducible exact LeO.none _)
      | (with_reducible refine LeO.ite ?_ ?_)
      | (with_reducible refine LeO.bind ?_ (fun _ => ?_))
      | exact impl_IsLoop.mono _ _
      | exact impl_canBeDrawn.mono _ _
      | exact LeO.none _
      | refine LeO.ite ?_ ?_
      | refine LeO.bind ?_ (fun _ => ?_)
set_option maxHeartbeats 8000000 in
set_option maxRecDepth 100000 in
theorem impl_CanBeDrawn.calls (k : Nat) (a0 : ByteArray) (r1 : Bool) (r2 : Bool) (w : World) (h : impl_CanBeDrawn.f k a0 = some (r1, r2)) :
    Calls Tryz.prog 27 #[.string a0] w fun e w' => e = .returned (.tuple #[.bool r1, .bool r2]) ∧ Below w.heap.size w w' := by
  have HB := Aside0.mk (Below.refl w.heap.size w)
  have H : ((impl_IsLoop.f k a0).bind fun t130 => (if t130 = true then ((impl_canBeDrawn.f k a0).bind fun t131 => (some (t131, true))) else (some (false, false)))) = some (r1, r2) := h
  clear h
  replace H := Option.bind_eq_some_iff.mp H
  obtain ⟨t130, A20, H⟩ := H
  replace H : (if t130 = true then ((impl_canBeDrawn.f k a0).bind fun t131 => (some (t131, true))) else (some (false, false))) = some (r1, r2) := H
  have A2 := Aside0.mk A20
  clear A20
  by_cases c3 : t130 = true
  · subst c3
    have H1 : ((impl_canBeDrawn.f k a0).bind fun t131 => (some (t131, true))) = some (r1, r2) := by rw [if_pos rfl] at H; exact H
    clear H
    have H := H1
    clear H1
    replace H := Option.bind_eq_some_iff.mp H
    obtain ⟨t131, A40, H⟩ := H
    replace H : (some (t131, true)) = some (r1, r2) := H
    have A4 := Aside0.mk A40
    clear A40
    simp only [Option.some.injEq, Prod.mk.injEq] at H
    obtain ⟨rfl, rfl⟩ := H
    go_enter Tryz.func27, Tryz.ntmps27
    go_wp2_with (first | ((with_reducible refine gate_callee (f := 12) rfl ?_); refine goesL_ (some 5) rfl rfl Tryz.func12 (by kernel_rfl) rfl #[.string a0] rfl (by (try simp only [List.map_toArray, List.map_cons, List.map_nil]); first | done | rfl | (simp only [List.length_drop, List.length_take]; rfl)) ?_; (with_reducible refine (impl_IsLoop.calls k a0 true _ A2.out).mono ?_); rintro e w5 ⟨rfl, hb⟩; refine ⟨_, rfl, ?_⟩; have n0_ := Aside0.mk (below_step (by repeat (first | (with_reducible first | exact HB.out | apply below_alloc | apply pw_below_drewN | apply below_drew1) | exact HB.out)) hb); clear HB; have HB := n0_; clear n0_; (try clear hb); (try clear hb2); (try clear hk); (try clear hi)) | ((with_reducible refine gate_callee (f := 68) rfl ?_); refine goesL_ (some 8) rfl rfl Tryz.func68 (by kernel_rfl) rfl #[.string a0] rfl (by (try simp only [List.map_toArray, List.map_cons, List.map_nil]); first | done | rfl | (simp only [List.length_drop, List.length_take]; rfl)) ?_; (with_reducible refine (impl_canBeDrawn.calls k a0 t131 _ A4.out).mono ?_); rintro e w6 ⟨rfl, hb⟩; refine ⟨_, rfl, ?_⟩; have n0_ := Aside0.mk (below_step (by repeat (first | (with_reducible first | exact HB.out | apply below_alloc | apply pw_below_drewN | apply below_drew1) | exact HB.out)) hb); clear HB; have HB := n0_; clear n0_; (try clear hb); (try clear hb2); (try clear hk); (try clear hi)))
    go_ret2
    exact ⟨by first | rfl | (simp [errW_none, errW_some] <;> rfl) | (simp [*, errW_none, errW_some] <;> rfl), by repeat (first | (with_reducible first | exact HB.out | apply below_alloc | apply pw_below_drewN | apply below_drew1) | exact HB.out)⟩
  · replace c3 := Bool.eq_false_iff.mpr c3
    subst c3
    have H1 : (some (false, false)) = some (r1, r2) := by rw [if_neg (show ¬ (false = true) by decide)] at H; exact H
    clear H
    have H := H1
    clear H1
    simp only [Option.some.injEq, Prod.mk.injEq] at H
    obtain ⟨rfl, rfl⟩ := H
    go_enter Tryz.func27, Tryz.ntmps27
    go_wp2_with (first | ((with_reducible refine gate_callee (f := 12) rfl ?_); refine goesL_ (some 5) rfl rfl Tryz.func12 (by kernel_rfl) rfl #[.string a0] rfl (by (try simp only [List.map_toArray, List.map_cons, List.map_nil]); first | done | rfl | (simp only [List.length_drop, List.length_take]; rfl)) ?_; (with_reducible refine (impl_IsLoop.calls k a0 false _ A2.out).mono ?_); rintro e w7 ⟨rfl, hb⟩; refine ⟨_, rfl, ?_⟩; have n0_ := Aside0.mk (below_step (by repeat (first | (with_reducible first | exact HB.out | apply below_alloc | apply pw_below_drewN | apply below_drew1) | exact HB.out)) hb); clear HB; have HB := n0_; clear n0_; (try clear hb); (try clear hb2); (try clear hk); (try clear hi)))
    go_ret2
    exact ⟨by first | rfl | (simp [errW_none, errW_some] <;> rfl) | (simp [*, errW_none, errW_some] <;> rfl), by repeat (first | (with_reducible first | exact HB.out | apply below_alloc | apply pw_below_drewN | apply below_drew1) | exact HB.out)⟩

end Go.Proofs.YtcgoaipbfnhjhaaGreatDoor.Pr

-- Written by a program for this claim.
namespace Go.Proofs.YtcgoaipbfnhjhaaGreatDoor.Pr
open Go.RowKit Go.Proofs.YtcgoaipbfnhjhaaGreatDoorW.PrintWords Go.Proofs.YtcgoaipbfnhjhaaGreatDoorW.PrintLast Go.Proofs.YtcgoaipbfnhjhaaGreatDoorW.PrintMore
attribute [local go_sem] max2_int min2_int max_two min_two max_three min_three max_four min_four   -- for this text's walks alone
set_option linter.unusedVariables false
set_option linter.unusedSimpArgs false

/-! ### spec_loAnew: function 75 -/
mutual
def spec_loAnew.l0 : Nat → ByteArray → ByteArray → ByteArray → Int → Option (ByteArray)
  | 0, _, _, _, _ => none
  | k + 1, x0, x3, x4, x5 => if x5 < (x0.size : Int) then (spec_loAnew.l1 k x0 x3 x4 x5 (-1) 0) else (some x4)
def spec_loAnew.l1 : Nat → ByteArray → ByteArray → ByteArray → Int → Int → Int → Option (ByteArray)
  | 0, _, _, _, _, _, _ => none
  | k + 1, x0, x3, x4, x5, x6, x7 => if x7 < (x3.size : Int) then (if 0 ≤ x7 then (if 0 ≤ x5 then (if x5 < (x0.size : Int) then (if (bt x3 x7) = (bt x0 x5) then (spec_loAnew.l1 k x0 x3 x4 x5 x7 (wrap64 (x7 + 1))) else (spec_loAnew.l1 k x0 x3 x4 x5 x6 (wrap64 (x7 + 1)))) else (none)) else (none)) else (none)) else (if x6 < 0 then (if 0 ≤ x5 then (if x5 ≤ (wrap64 (x5 + 1)) then (if (wrap64 (x5 + 1)) ≤ (x0.size : Int) then (if x3.size + (x0.extract (x5 : Int).toNat ((wrap64 (x5 + 1)) : Int).toNat).size ≤ 9223372036854775807 then (if 0 ≤ (x3.size : Int) then (if (x3.size : Int) ≤ (wrap64 ((x3.size : Int) + 1)) then (if (wrap64 ((x3.size : Int) + 1)) ≤ 16 then (if x4.size + ((⟨#[97, 98, 99, 100, 101, 102, 103, 104, 105, 106, 107, 108, 109, 110, 111, 112]⟩ : ByteArray).extract ((x3.size : Int) : Int).toNat ((wrap64 ((x3.size : Int) + 1)) : Int).toNat).size ≤ 9223372036854775807 then (spec_loAnew.l0 k x0 (x3 ++ (x0.extract (x5 : Int).toNat ((wrap64 (x5 + 1)) : Int).toNat)) (x4 ++ ((⟨#[97, 98, 99, 100, 101, 102, 103, 104, 105, 106, 107, 108, 109, 110, 111, 112]⟩ : ByteArray).extract ((x3.size : Int) : Int).toNat ((wrap64 ((x3.size : Int) + 1)) : Int).toNat)) (wrap64 (x5 + 1))) else (none)) else (none)) else (none)) else (none)) else (none)) else (none)) else (none)) else (none)) else (if 0 ≤ x6 then (if x6 ≤ (wrap64 (x6 + 1)) then (if (wrap64 (x6 + 1)) ≤ 16 then (if x4.size + ((⟨#[97, 98, 99, 100, 101, 102, 103, 104, 105, 106, 107, 108, 109, 110, 111, 112]⟩ : ByteArray).extract (x6 : Int).toNat ((wrap64 (x6 + 1)) : Int).toNat).size ≤ 9223372036854775807 then (spec_loAnew.l0 k x0 x3 (x4 ++ ((⟨#[97, 98, 99, 100, 101, 102, 103, 104, 105, 106, 107, 108, 109, 110, 111, 112]⟩ : ByteArray).extract (x6 : Int).toNat ((wrap64 (x6 + 1)) : Int).toNat)) (wrap64 (x5 + 1))) else (none)) else (none)) else (none)) else (none)))
end
def spec_loAnew.f (k : Nat) (a0 : ByteArray) : Option (ByteArray) := spec_loAnew.l0 k a0 (⟨#[]⟩ : ByteArray) (⟨#[]⟩ : ByteArray) 0
theorem spec_loAnew.mono_l : ∀ k, (∀ y0 y1 y2 y3, LeO (spec_loAnew.l0 k y0 y1 y2 y3) (spec_loAnew.l0 (k + 1) y0 y1 y2 y3)) ∧ (∀ y0 y1 y2 y3 y4 y5, LeO (spec_loAnew.l1 k y0 y1 y2 y3 y4 y5) (spec_loAnew.l1 (k + 1) y0 y1 y2 y3 y4 y5))
  | 0 => ⟨fun _ _ _ _ r h => by simp [spec_loAnew.l0] at h, fun _ _ _ _ _ _ r h => by simp [spec_loAnew.l1] at h⟩
  | k + 1 => by
    obtain ⟨ih0, ih1⟩ := spec_loAnew.mono_l k
    refine ⟨?_, ?_⟩
    · intro y0 y1 y2 y3
      unfold spec_loAnew.l0
      repeat' first
      | (with_reducible exact ih0 _ _ _ _)
      | (with_reducible exact ih1 _ _ _ _ _ _)
      | (with_reducible exact LeO.refl _)
      | (with_reducible exact LeO.none _)
      | (with_reducible refine LeO.ite ?_ ?_)
      | (with_reducible refine LeO.bind ?_ (fun _ => ?_))
      | exact ih0 _ _ _ _
      | exact ih1 _ _ _ _ _ _
      | exact LeO.none _
      | refine LeO.ite ?_ ?_
      | refine LeO.bind ?_ (fun _ => ?_)
    · intro y0 y1 y2 y3 y4 y5
      unfold spec_loAnew.l1
      repeat' first
      | (with_reducible exact ih0 _ _ _ _)
      | (with_reducible exact ih1 _ _ _ _ _ _)
      | (with_reducible exact LeO.refl _)
      | (with_reducible exact LeO.none _)
      | (with_reducible refine LeO.ite ?_ ?_)
      | (with_reducible refine LeO.bind ?_ (fun _ => ?_))
      | exact ih0 _ _ _ _
      | exact ih1 _ _ _ _ _ _
      | exact LeO.none _
      | refine LeO.ite ?_ ?_
      | refine LeO.bind ?_ (fun _ => ?_)
theorem spec_loAnew.mono : ∀ a0 k, LeO (spec_loAnew.f k a0) (spec_loAnew.f (k + 1) a0) := by
  intro a0 k
  obtain ⟨ih0, ih1⟩ := spec_loAnew.mono_l k
  unfold spec_loAnew.f
  repeat' first
      | (with_reducible exact ih0 _ _ _ _)
      | (with_reducible exact ih1 _ _ _ _ _ _)
      | (with_reducible exact LeO.refl _)
      | (with_reducible exact LeO.none _)
      | (with_reducible refine LeO.ite ?_ ?_)
      | (with_reducible refine LeO.bind ?_ (fun _ => ?_))
      | exact ih0 _ _ _ _
      | exact ih1 _ _ _ _ _ _
      | exact LeO.none _
      | refine LeO.ite ?_ ?_
      | refine LeO.bind ?_ (fun _ => ?_)
set_option maxHeartbeats 8000000 in
set_option maxRecDepth 100000 in
theorem spec_loAnew.calls (k : Nat) (a0 : ByteArray) (r : ByteArray) (w : World) (h : spec_loAnew.f k a0 = some r) :
    Calls Tryz.prog 75 #[.string a0] w fun e w' => e = .returned (.string r) ∧ Drawn0 w w' := by
  have H : (spec_loAnew.l0 k a0 (⟨#[]⟩ : ByteArray) (⟨#[]⟩ : ByteArray) 0) = some r := h
  clear h
  have H' := Aside0.mk H
  clear H
  go_enter Tryz.func75, Tryz.ntmps75
  go_wp2
  repeat (go_quiet (fail); try go_wp2)
  go_loopg [3, 4, 5] k (fun kq v3 v4 v5 w' => ∃ (x3_1 : ByteArray) (x4_1 : ByteArray) (x5_1 : Int), v3 = .string x3_1 ∧ v4 = .string x4_1 ∧ v5 = .int .i64 x5_1 ∧ Aside0 (spec_loAnew.l0 kq a0 x3_1 x4_1 x5_1 = some r) ∧ Aside0 (kq ≤ k) ∧ Drawn0 w w')
  case atStart => exact ⟨((⟨#[]⟩ : ByteArray)), ((⟨#[]⟩ : ByteArray)), (0), (by first | rfl | (simp; done) | (simp [*]; done)), (by first | rfl | (simp; done) | (simp [*]; done)), (by first | rfl | (simp; done) | (simp [*]; done)), H', ⟨Nat.le_refl _⟩, by repeat (first | exact Drawn0.refl _ | apply Drawn0.step)⟩
  case round =>
    clear H'
    obtain ⟨x3_1, x4_1, x5_1, rfl, rfl, rfl, HA, HK1, ⟨m1, rfl⟩⟩ := hrel
    cases gk with
    | zero => exact absurd HA.out (by simp [spec_loAnew.l0])
    | succ k1 =>
      have H := HA.out
      clear HA
      simp only [spec_loAnew.l0] at H
      by_cases c2 : x5_1 < (a0.size : Int)
      · rw [if_pos c2] at H
        have c2b0 : decide (x5_1 < (a0.size : Int)) = true := decide_eq_true c2
        clear c2
        have H' := Aside0.mk H
        clear H
        go_wp2
        repeat (go_quiet (fail); try go_wp2)
        go_loopg [6, 7] k1 (fun kq v6 v7 w' => ∃ (x6_2 : Int) (x7_2 : Int), v6 = .int .i64 x6_2 ∧ v7 = .int .i64 x7_2 ∧ Aside0 (spec_loAnew.l1 kq a0 x3_1 x4_1 x5_1 x6_2 x7_2 = some r) ∧ Aside0 (kq ≤ k1) ∧ Drawn0 w w')
        case atStart => exact ⟨((-1)), (0), (by first | rfl | (simp; done) | (simp [*]; done)), (by first | rfl | (simp; done) | (simp [*]; done)), H', ⟨Nat.le_refl _⟩, by repeat (first | exact Drawn0.refl _ | apply Drawn0.step)⟩
        case round =>
          clear H'
          try clear c2
          try clear c2b0
          try clear p2
          obtain ⟨x6_2, x7_2, rfl, rfl, HA, HK2, ⟨m2, rfl⟩⟩ := hrel
          cases gk with
          | zero => exact absurd HA.out (by simp [spec_loAnew.l1])
          | succ k2 =>
            have H := HA.out
            clear HA
            simp only [spec_loAnew.l1] at H
            by_cases c3 : x7_2 < (x3_1.size : Int)
            · rw [if_pos c3] at H
              have c3b0 : decide (x7_2 < (x3_1.size : Int)) = true := decide_eq_true c3
              clear c3
              by_cases c4 : 0 ≤ x7_2
              · rw [if_pos c4] at H
                have c4b0 : decide (0 ≤ x7_2) = true := decide_eq_true c4
                clear c4
                by_cases c6 : 0 ≤ x5_1
                · rw [if_pos c6] at H
                  have c6b0 : decide (0 ≤ x5_1) = true := decide_eq_true c6
                  clear c6
                  by_cases c7 : x5_1 < (a0.size : Int)
                  · rw [if_pos c7] at H
                    have c7b0 : decide (x5_1 < (a0.size : Int)) = true := decide_eq_true c7
                    clear c7
                    by_cases c9 : (bt x3_1 x7_2) = (bt a0 x5_1)
                    · rw [if_pos c9] at H
                      have c9b0 : ((bt x3_1 x7_2) == (bt a0 x5_1)) = true := beq_iff_eq.mpr c9
                      have c9b1 : ((bt x3_1 x7_2) != (bt a0 x5_1)) = false := bne_eq_false_iff_eq.mpr c9
                      clear c9
                      have H' := Aside0.mk H
                      clear H
                      have p5 : 0 ≤ (x7_2 : Int) := of_decide_eq_true (by first | (with_reducible assumption) | assumption)
                      have q5 : x7_2 < (x3_1.size : Int) := of_decide_eq_true (by first | (with_reducible assumption) | assumption)
                      have hx5 := bt_at x3_1 x7_2
                      replace p5 := eq_true p5
                      replace q5 := eq_true q5
                      have p8 : 0 ≤ (x5_1 : Int) := of_decide_eq_true (by first | (with_reducible assumption) | assumption)
                      have q8 : x5_1 < (a0.size : Int) := of_decide_eq_true (by first | (with_reducible assumption) | assumption)
                      have hx8 := bt_at a0 x5_1
                      replace p8 := eq_true p8
                      replace q8 := eq_true q8
                      go_wp2
                      repeat (go_quiet (fail); try go_wp2)
                      go_roundg k2
                      case measure => have := HK1.out; have := HK2.out; omega
                      case rel => exact ⟨(x7_2), (wrap64 (x7_2 + 1)), (by first | rfl | (simp; done) | (simp [*]; done)), (by first | rfl | (simp; done) | (simp [*]; done)), H', ⟨by have := HK1.out; have := HK2.out; omega⟩, by repeat (first | exact Drawn0.refl _ | apply Drawn0.step)⟩
                    · rw [if_neg c9] at H
                      have c9b0 : ((bt x3_1 x7_2) == (bt a0 x5_1)) = false := beq_eq_false_iff_ne.mpr c9
                      have c9b1 : ((bt x3_1 x7_2) != (bt a0 x5_1)) = true := bne_iff_ne.mpr c9
                      have H' := Aside0.mk H
                      clear H
                      have p5 : 0 ≤ (x7_2 : Int) := of_decide_eq_true (by first | (with_reducible assumption) | assumption)
                      have q5 : x7_2 < (x3_1.size : Int) := of_decide_eq_true (by first | (with_reducible assumption) | assumption)
                      have hx5 := bt_at x3_1 x7_2
                      replace p5 := eq_true p5
                      replace q5 := eq_true q5
                      have p8 : 0 ≤ (x5_1 : Int) := of_decide_eq_true (by first | (with_reducible assumption) | assumption)
                      have q8 : x5_1 < (a0.size : Int) := of_decide_eq_true (by first | (with_reducible assumption) | assumption)
                      have hx8 := bt_at a0 x5_1
                      replace p8 := eq_true p8
                      replace q8 := eq_true q8
                      go_wp2
                      repeat (go_quiet (fail); try go_wp2)
                      go_roundg k2
                      case measure => have := HK1.out; have := HK2.out; omega
                      case rel => exact ⟨(x6_2), (wrap64 (x7_2 + 1)), (by first | rfl | (simp; done) | (simp [*]; done)), (by first | rfl | (simp; done) | (simp [*]; done)), H', ⟨by have := HK1.out; have := HK2.out; omega⟩, by repeat (first | exact Drawn0.refl _ | apply Drawn0.step)⟩
                  · rw [if_neg c7] at H
                    exact absurd H (by simp)
                · rw [if_neg c6] at H
                  exact absurd H (by simp)
              · rw [if_neg c4] at H
                exact absurd H (by simp)
            · rw [if_neg c3] at H
              have c3b0 : decide (x7_2 < (x3_1.size : Int)) = false := decide_eq_false c3
              clear c3
              by_cases c10 : x6_2 < 0
              · rw [if_pos c10] at H
                have c10b0 : decide (x6_2 < 0) = true := decide_eq_true c10
                clear c10
                by_cases c11 : 0 ≤ x5_1
                · rw [if_pos c11] at H
                  have c11b0 := eq_true c11
                  have c11b1 : decide (0 ≤ x5_1) = true := decide_eq_true c11
                  clear c11
                  by_cases c12 : x5_1 ≤ (wrap64 (x5_1 + 1))
                  · rw [if_pos c12] at H
                    have c12b0 := eq_true c12
                    have c12b1 : decide (x5_1 ≤ (wrap64 (x5_1 + 1))) = true := decide_eq_true c12
                    by_cases c13 : (wrap64 (x5_1 + 1)) ≤ (a0.size : Int)
                    · rw [if_pos c13] at H
                      have c13b0 := eq_true c13
                      have c13b1 : decide ((wrap64 (x5_1 + 1)) ≤ (a0.size : Int)) = true := decide_eq_true c13
                      by_cases c14 : x3_1.size + (a0.extract (x5_1 : Int).toNat ((wrap64 (x5_1 + 1)) : Int).toNat).size ≤ 9223372036854775807
                      · rw [if_pos c14] at H
                        have c14b0 := eq_true c14
                        have c14b1 : decide (x3_1.size + (a0.extract (x5_1 : Int).toNat ((wrap64 (x5_1 + 1)) : Int).toNat).size ≤ 9223372036854775807) = true := decide_eq_true c14
                        try have c14b2 : (9223372036854775807 < x3_1.size + (a0.extract (x5_1 : Int).toNat ((wrap64 (x5_1 + 1)) : Int).toNat).size) = False := eq_false (Nat.not_lt.2 c14)
                        by_cases c15 : 0 ≤ (x3_1.size : Int)
                        · rw [if_pos c15] at H
                          have c15b0 := eq_true c15
                          have c15b1 : decide (0 ≤ (x3_1.size : Int)) = true := decide_eq_true c15
                          clear c15
                          by_cases c16 : (x3_1.size : Int) ≤ (wrap64 ((x3_1.size : Int) + 1))
                          · rw [if_pos c16] at H
                            have c16b0 := eq_true c16
                            have c16b1 : decide ((x3_1.size : Int) ≤ (wrap64 ((x3_1.size : Int) + 1))) = true := decide_eq_true c16
                            have hwc16_ : wrap64 ((x3_1.size : Int) + 1) = (x3_1.size : Int) + 1 := by clear H; unfold wrap64 at c16 ⊢; omega
                            by_cases c17 : (wrap64 ((x3_1.size : Int) + 1)) ≤ 16
                            · rw [if_pos c17] at H
                              have c17b0 := eq_true c17
                              have c17b1 : decide ((wrap64 ((x3_1.size : Int) + 1)) ≤ 16) = true := decide_eq_true c17
                              by_cases c18 : x4_1.size + ((⟨#[97, 98, 99, 100, 101, 102, 103, 104, 105, 106, 107, 108, 109, 110, 111, 112]⟩ : ByteArray).extract ((x3_1.size : Int) : Int).toNat ((wrap64 ((x3_1.size : Int) + 1)) : Int).toNat).size ≤ 9223372036854775807
                              · rw [if_pos c18] at H
                                have c18b0 := eq_true c18
                                have c18b1 : decide (x4_1.size + ((⟨#[97, 98, 99, 100, 101, 102, 103, 104, 105, 106, 107, 108, 109, 110, 111, 112]⟩ : ByteArray).extract ((x3_1.size : Int) : Int).toNat ((wrap64 ((x3_1.size : Int) + 1)) : Int).toNat).size ≤ 9223372036854775807) = true := decide_eq_true c18
                                try have c18b2 : (9223372036854775807 < x4_1.size + ((⟨#[97, 98, 99, 100, 101, 102, 103, 104, 105, 106, 107, 108, 109, 110, 111, 112]⟩ : ByteArray).extract ((x3_1.size : Int) : Int).toNat ((wrap64 ((x3_1.size : Int) + 1)) : Int).toNat).size) = False := eq_false (Nat.not_lt.2 c18)
                                try have c18b3 : (9223372036854775807 < x4_1.size + (min (x3_1.size + 1) 16 - x3_1.size)) = False := eq_false (by have h1_ := c18; simp only [hwc16_, Int.toNat_natCast, Int.toNat_natCast_add_one, ByteArray.size_extract] at h1_; exact Nat.not_lt.2 h1_)
                                try simp only [hwc16_, Int.toNat_natCast, Int.toNat_natCast_add_one] at c16b0
                                try simp only [hwc16_, Int.toNat_natCast, Int.toNat_natCast_add_one] at c16b1
                                try simp only [hwc16_, Int.toNat_natCast, Int.toNat_natCast_add_one] at c17b0
                                try simp only [hwc16_, Int.toNat_natCast, Int.toNat_natCast_add_one] at c17b1
                                try simp only [hwc16_, Int.toNat_natCast, Int.toNat_natCast_add_one] at c18b0
                                try simp only [hwc16_, Int.toNat_natCast, Int.toNat_natCast_add_one] at c18b1
                                try simp only [hwc16_, Int.toNat_natCast, Int.toNat_natCast_add_one] at c18b2
                                have H' := Aside0.mk H
                                clear H
                                go_wp2
                                repeat (go_quiet (fail); try go_wp2)
                                go_roundg k2
                                case measure => have := HK1.out; have := HK2.out; omega
                                case rel => exact ⟨(x3_1 ++ (a0.extract (x5_1 : Int).toNat ((wrap64 (x5_1 + 1)) : Int).toNat)), (x4_1 ++ ((⟨#[97, 98, 99, 100, 101, 102, 103, 104, 105, 106, 107, 108, 109, 110, 111, 112]⟩ : ByteArray).extract ((x3_1.size : Int) : Int).toNat ((wrap64 ((x3_1.size : Int) + 1)) : Int).toNat)), (wrap64 (x5_1 + 1)), (by first | rfl | (simp; done) | (simp [*]; done)), (by first | rfl | (simp; done) | (simp [*]; done)), (by first | rfl | (simp; done) | (simp [*]; done)), H', ⟨by have := HK1.out; have := HK2.out; omega⟩, by repeat (first | exact Drawn0.refl _ | apply Drawn0.step)⟩
                              · rw [if_neg c18] at H
                                exact absurd H (by simp)
                            · rw [if_neg c17] at H
                              exact absurd H (by simp)
                          · rw [if_neg c16] at H
                            exact absurd H (by simp)
                        · rw [if_neg c15] at H
                          exact absurd H (by simp)
                      · rw [if_neg c14] at H
                        exact absurd H (by simp)
                    · rw [if_neg c13] at H
                      exact absurd H (by simp)
                  · rw [if_neg c12] at H
                    exact absurd H (by simp)
                · rw [if_neg c11] at H
                  exact absurd H (by simp)
              · rw [if_neg c10] at H
                have c10b0 : decide (x6_2 < 0) = false := decide_eq_false c10
                clear c10
                by_cases c19 : 0 ≤ x6_2
                · rw [if_pos c19] at H
                  have c19b0 := eq_true c19
                  have c19b1 : decide (0 ≤ x6_2) = true := decide_eq_true c19
                  clear c19
                  by_cases c20 : x6_2 ≤ (wrap64 (x6_2 + 1))
                  · rw [if_pos c20] at H
                    have c20b0 := eq_true c20
                    have c20b1 : decide (x6_2 ≤ (wrap64 (x6_2 + 1))) = true := decide_eq_true c20
                    by_cases c21 : (wrap64 (x6_2 + 1)) ≤ 16
                    · rw [if_pos c21] at H
                      have c21b0 := eq_true c21
                      have c21b1 : decide ((wrap64 (x6_2 + 1)) ≤ 16) = true := decide_eq_true c21
                      by_cases c22 : x4_1.size + ((⟨#[97, 98, 99, 100, 101, 102, 103, 104, 105, 106, 107, 108, 109, 110, 111, 112]⟩ : ByteArray).extract (x6_2 : Int).toNat ((wrap64 (x6_2 + 1)) : Int).toNat).size ≤ 9223372036854775807
                      · rw [if_pos c22] at H
                        have c22b0 := eq_true c22
                        have c22b1 : decide (x4_1.size + ((⟨#[97, 98, 99, 100, 101, 102, 103, 104, 105, 106, 107, 108, 109, 110, 111, 112]⟩ : ByteArray).extract (x6_2 : Int).toNat ((wrap64 (x6_2 + 1)) : Int).toNat).size ≤ 9223372036854775807) = true := decide_eq_true c22
                        try have c22b2 : (9223372036854775807 < x4_1.size + ((⟨#[97, 98, 99, 100, 101, 102, 103, 104, 105, 106, 107, 108, 109, 110, 111, 112]⟩ : ByteArray).extract (x6_2 : Int).toNat ((wrap64 (x6_2 + 1)) : Int).toNat).size) = False := eq_false (Nat.not_lt.2 c22)
                        have H' := Aside0.mk H
                        clear H
                        go_wp2
                        repeat (go_quiet (fail); try go_wp2)
                        go_roundg k2
                        case measure => have := HK1.out; have := HK2.out; omega
                        case rel => exact ⟨(x3_1), (x4_1 ++ ((⟨#[97, 98, 99, 100, 101, 102, 103, 104, 105, 106, 107, 108, 109, 110, 111, 112]⟩ : ByteArray).extract (x6_2 : Int).toNat ((wrap64 (x6_2 + 1)) : Int).toNat)), (wrap64 (x5_1 + 1)), (by first | rfl | (simp; done) | (simp [*]; done)), (by first | rfl | (simp; done) | (simp [*]; done)), (by first | rfl | (simp; done) | (simp [*]; done)), H', ⟨by have := HK1.out; have := HK2.out; omega⟩, by repeat (first | exact Drawn0.refl _ | apply Drawn0.step)⟩
                      · rw [if_neg c22] at H
                        exact absurd H (by simp)
                    · rw [if_neg c21] at H
                      exact absurd H (by simp)
                  · rw [if_neg c20] at H
                    exact absurd H (by simp)
                · rw [if_neg c19] at H
                  exact absurd H (by simp)
      · rw [if_neg c2] at H
        have c2b0 : decide (x5_1 < (a0.size : Int)) = false := decide_eq_false c2
        clear c2
        obtain rfl := Option.some.inj H
        go_wp2
        repeat (go_quiet (fail); try go_wp2)
        go_ret
        exact ⟨by first | rfl | (simp; done) | (simp [*]; done), by repeat (first | exact Drawn0.refl _ | apply Drawn0.step)⟩

end Go.Proofs.YtcgoaipbfnhjhaaGreatDoor.Pr

-- Written by a program for this claim.
namespace Go.Proofs.YtcgoaipbfnhjhaaGreatDoor.Pr
open Go.RowKit Go.Proofs.YtcgoaipbfnhjhaaGreatDoorW.PrintWords Go.Proofs.YtcgoaipbfnhjhaaGreatDoorW.PrintLast Go.Proofs.YtcgoaipbfnhjhaaGreatDoorW.PrintMore
attribute [local go_sem] max2_int min2_int max_two min_two max_three min_three max_four min_four   -- for this text's walks alone
set_option linter.unusedVariables false
set_option linter.unusedSimpArgs false

/-! ### spec_loGood: function 71 -/
mutual
def spec_loGood.j0 : Nat → ByteArray → Bool → Option (Bool)
  | 0, _, _ => none
  | k + 1, x0, x14 => if x14 = true then (some false) else (spec_loGood.l0 k x0 0)
def spec_loGood.l0 : Nat → ByteArray → Int → Option (Bool)
  | 0, _, _ => none
  | k + 1, x0, x3 => if x3 < (x0.size : Int) then (spec_loGood.l1 k x0 x3 0 0) else ((spec_loAnew.f k x0).bind fun t152 => (some (t152.toList == x0.toList)))
def spec_loGood.l1 : Nat → ByteArray → Int → Int → Int → Option (Bool)
  | 0, _, _, _, _ => none
  | k + 1, x0, x3, x4, x5 => if x5 < (x0.size : Int) then (if 0 ≤ x5 then (if 0 ≤ x3 then (if x3 < (x0.size : Int) then (if (bt x0 x5) = (bt x0 x3) then (spec_loGood.l1 k x0 x3 (wrap64 (x4 + 1)) (wrap64 (x5 + 1))) else (spec_loGood.l1 k x0 x3 x4 (wrap64 (x5 + 1)))) else (none)) else (none)) else (none)) else (if x4 = 2 then (spec_loGood.l0 k x0 (wrap64 (x3 + 1))) else (some false))
end
def spec_loGood.f (k : Nat) (a0 : ByteArray) : Option (Bool) := if (a0.size : Int) > 16 then (spec_loGood.j0 k a0 true) else (spec_loGood.j0 k a0 (((a0.size : Int) % 2) != 0))
theorem spec_loGood.mono_l : ∀ k, (∀ y0 y1, LeO (spec_loGood.j0 k y0 y1) (spec_loGood.j0 (k + 1) y0 y1)) ∧ (∀ y0 y1, LeO (spec_loGood.l0 k y0 y1) (spec_loGood.l0 (k + 1) y0 y1)) ∧ (∀ y0 y1 y2 y3, LeO (spec_loGood.l1 k y0 y1 y2 y3) (spec_loGood.l1 (k + 1) y0 y1 y2 y3))
  | 0 => ⟨fun _ _ r h => by simp [spec_loGood.j0] at h, fun _ _ r h => by simp [spec_loGood.l0] at h, fun _ _ _ _ r h => by simp [spec_loGood.l1] at h⟩
  | k + 1 => by
    obtain ⟨ih0, ih1, ih2⟩ := spec_loGood.mono_l k
    refine ⟨?_, ?_, ?_⟩
    · intro y0 y1
      unfold spec_loGood.j0
      repeat' first
      | (with_reducible exact ih0 _ _)
      | (with_reducible exact ih1 _ _)
      | (with_reducible exact ih2 _ _ _ _)
      | (with_reducible exact spec_loAnew.mono _ _)
      | (with_reducible exact LeO.refl _)
      | (with_reducible exact LeO.none _)
      | (with_reducible refine LeO.ite ?_ ?_)
      | (with_reducible refine LeO.bind ?_ (fun _ => ?_))
      | exact ih0 _ _
      | exact ih1 _ _
      | exact ih2 _ _ _ _
      | exact spec_loAnew.mono _ _
      | exact LeO.none _
      | refine LeO.ite ?_ ?_
      | refine LeO.bind ?_ (fun _ => ?_)
    · intro y0 y1
      unfold spec_loGood.l0
      repeat' first
      | (with_reducible exact ih0 _ _)
      | (with_reducible exact ih1 _ _)
      | (with_reducible exact ih2 _ _ _ _)
      | (with_reducible exact spec_loAnew.mono _ _)
      | (with_reducible exact LeO.refl _)
      | (with_reducible exact LeO.none _)
      | (with_reducible refine LeO.ite ?_ ?_)
      | (with_reducible refine LeO.bind ?_ (fun _ => ?_))
      | exact ih0 _ _
      | exact ih1 _ _
      | exact ih2 _ _ _ _
      | exact spec_loAnew.mono _ _
      | exact LeO.none _
      | refine LeO.ite ?_ ?_
      | refine LeO.bind ?_ (fun _ => ?_)
    · intro y0 y1 y2 y3
      unfold spec_loGood.l1
      repeat' first
      | (with_reducible exact ih0 _ _)
      | (with_reducible exact ih1 _ _)
      | (with_reducible exact ih2 _ _ _ _)
      | (with_reducible exact spec_loAnew.mono _ _)
      | (with_reducible exact LeO.refl _)
      | (with_reducible exact LeO.none _)
      | (with_reducible refine LeO.ite ?_ ?_)
      | (with_reducible refine LeO.bind ?_ (fun _ => ?_))
      | exact ih0 _ _
      | exact ih1 _ _
      | exact ih2 _ _ _ _
      | exact spec_loAnew.mono _ _
      | exact LeO.none _
      | refine LeO.ite ?_ ?_
      | refine LeO.bind ?_ (fun _ => ?_)
theorem spec_loGood.mono : ∀ a0 k, LeO (spec_loGood.f k a0) (spec_loGood.f (k + 1) a0) := by
  intro a0 k
  obtain ⟨ih0, ih1, ih2⟩ := spec_loGood.mono_l k
  unfold spec_loGood.f
  repeat' first
      | (with_reducible exact ih0 _ _)
      | (with_reducible exact ih1 _ _)
      | (with_reducible exact ih2 _ _ _ _)
      | (with_reducible exact spec_loAnew.mono _ _)
      | (with_reducible exact LeO.refl _)
      | (with_reducible exact LeO.none _)
      | (with_reducible refine LeO.ite ?_ ?_)
      | (with_reducible refine LeO.bind ?_ (fun _ => ?_))
      | exact ih0 _ _
      | exact ih1 _ _
      | exact ih2 _ _ _ _
      | exact spec_loAnew.mono _ _
      | exact LeO.none _
      | refine LeO.ite ?_ ?_
      | refine LeO.bind ?_ (fun _ => ?_)
set_option maxHeartbeats 8000000 in
set_option maxRecDepth 100000 in
theorem spec_loGood.calls (k : Nat) (a0 : ByteArray) (r : Bool) (w : World) (h : spec_loGood.f k a0 = some r) :
    Calls Tryz.prog 71 #[.string a0] w fun e w' => e = .returned (.bool r) ∧ Drawn0 w w' := by
  have H : (if (a0.size : Int) > 16 then (spec_loGood.j0 k a0 true) else (spec_loGood.j0 k a0 (((a0.size : Int) % 2) != 0))) = some r := h
  clear h
  have HC2 := Aside0.mk H
  clear H
  go_enter Tryz.func71, Tryz.ntmps71
  go_upto_region 1 with (fail)
  repeat (go_quiet (fail); go_upto_region 1 with (fail))
  go_cut [14] (fun v14 wc => ∃ (kq : Nat) (x14_1 : Bool), v14 = .bool x14_1 ∧ Aside0 (spec_loGood.j0 kq a0 x14_1 = some r) ∧ Aside0 (kq ≤ k) ∧ Drawn0 w wc)
  case first =>
    have H := HC2.out
    clear HC2
    by_cases c3 : (a0.size : Int) > 16
    · rw [if_pos c3] at H
      have c3b0 : decide (16 < (a0.size : Int)) = true := decide_eq_true c3
      have c3b1 : decide (16 < a0.size) = true := decide_eq_true (by omega)
      clear c3
      (first | rw [c3b0] | (simp only [i64_w, i32_w]; rw [c3b0]) | skip)
      have H' := Aside0.mk H
      clear H
      go_wp2
      repeat (go_quiet (fail); try go_wp2)
      go_meet
      case rel => exact ⟨_, (true), (by first | rfl | (simp; done) | (simp [*]; done)), H', ⟨by first | omega | exact Nat.le_refl _⟩, by repeat (first | exact Drawn0.refl _ | apply Drawn0.step)⟩
    · rw [if_neg c3] at H
      have c3b0 : decide (16 < (a0.size : Int)) = false := decide_eq_false c3
      have c3b1 : decide (16 < a0.size) = false := decide_eq_false (by omega)
      clear c3
      (first | rw [c3b0] | (simp only [i64_w, i32_w]; rw [c3b0]) | skip)
      have H' := Aside0.mk H
      clear H
      go_wp2
      repeat (go_quiet (fail); try go_wp2)
      go_meet
      case rel => exact ⟨_, ((((a0.size : Int) % 2) != 0)), (by first | rfl | (simp; done) | (simp [*]; done)), H', ⟨by first | omega | exact Nat.le_refl _⟩, by repeat (first | exact Drawn0.refl _ | apply Drawn0.step)⟩
  case rest =>
    clear HC2
    try clear p2
    try clear c3
    try clear c3b0
    try clear c3b1
    obtain ⟨kq, x14_1, rfl, HA, HJ1, ⟨mc1, rfl⟩⟩ := hcut
    cases kq with
    | zero => exact absurd HA.out (by simp [spec_loGood.j0])
    | succ kj1 =>
      have H := HA.out
      clear HA
      simp only [spec_loGood.j0] at H
      by_cases c4 : x14_1 = true
      · subst c4
        have H1 : (some false) = some r := by rw [if_pos rfl] at H; exact H
        clear H
        have H := H1
        clear H1
        obtain rfl := Option.some.inj H
        go_wp2
        repeat (go_quiet (fail); try go_wp2)
        go_ret
        exact ⟨by first | rfl | (simp; done) | (simp [*]; done), by repeat (first | exact Drawn0.refl _ | apply Drawn0.step)⟩
      · replace c4 := Bool.eq_false_iff.mpr c4
        subst c4
        have H1 : (spec_loGood.l0 kj1 a0 0) = some r := by rw [if_neg (show ¬ (false = true) by decide)] at H; exact H
        clear H
        have H := H1
        clear H1
        have H' := Aside0.mk H
        clear H
        go_wp2
        repeat (go_quiet (fail); try go_wp2)
        go_loopg [3] kj1 (fun kq v3 w' => ∃ (x3_2 : Int), v3 = .int .i64 x3_2 ∧ Aside0 (spec_loGood.l0 kq a0 x3_2 = some r) ∧ Aside0 (kq ≤ kj1) ∧ Drawn0 w w')
        case atStart => exact ⟨(0), (by first | rfl | (simp; done) | (simp [*]; done)), H', ⟨Nat.le_refl _⟩, by repeat (first | exact Drawn0.refl _ | apply Drawn0.step)⟩
        case round =>
          clear H'
          try clear c1
          try clear p2
          try clear c3
          try clear c3b0
          try clear c3b1
          try clear c4
          try clear p2
          obtain ⟨x3_2, rfl, HA, HK2, ⟨m2, rfl⟩⟩ := hrel
          cases gk with
          | zero => exact absurd HA.out (by simp [spec_loGood.l0])
          | succ k2 =>
            have H := HA.out
            clear HA
            simp only [spec_loGood.l0] at H
            by_cases c5 : x3_2 < (a0.size : Int)
            · rw [if_pos c5] at H
              have c5b0 : decide (x3_2 < (a0.size : Int)) = true := decide_eq_true c5
              clear c5
              have H' := Aside0.mk H
              clear H
              go_wp2
              repeat (go_quiet (fail); try go_wp2)
              go_loopg [4, 5] k2 (fun kq v4 v5 w' => ∃ (x4_3 : Int) (x5_3 : Int), v4 = .int .i64 x4_3 ∧ v5 = .int .i64 x5_3 ∧ Aside0 (spec_loGood.l1 kq a0 x3_2 x4_3 x5_3 = some r) ∧ Aside0 (kq ≤ k2) ∧ Drawn0 w w')
              case atStart => exact ⟨(0), (0), (by first | rfl | (simp; done) | (simp [*]; done)), (by first | rfl | (simp; done) | (simp [*]; done)), H', ⟨Nat.le_refl _⟩, by repeat (first | exact Drawn0.refl _ | apply Drawn0.step)⟩
              case round =>
                clear H'
                try clear c1
                try clear p2
                try clear c3
                try clear c3b0
                try clear c3b1
                try clear c4
                try clear c5
                try clear c5b0
                try clear p2
                obtain ⟨x4_3, x5_3, rfl, rfl, HA, HK3, ⟨m3, rfl⟩⟩ := hrel
                cases gk with
                | zero => exact absurd HA.out (by simp [spec_loGood.l1])
                | succ k3 =>
                  have H := HA.out
                  clear HA
                  simp only [spec_loGood.l1] at H
                  by_cases c6 : x5_3 < (a0.size : Int)
                  · rw [if_pos c6] at H
                    have c6b0 : decide (x5_3 < (a0.size : Int)) = true := decide_eq_true c6
                    clear c6
                    by_cases c7 : 0 ≤ x5_3
                    · rw [if_pos c7] at H
                      have c7b0 : decide (0 ≤ x5_3) = true := decide_eq_true c7
                      clear c7
                      by_cases c9 : 0 ≤ x3_2
                      · rw [if_pos c9] at H
                        have c9b0 : decide (0 ≤ x3_2) = true := decide_eq_true c9
                        clear c9
                        by_cases c10 : x3_2 < (a0.size : Int)
                        · rw [if_pos c10] at H
                          have c10b0 : decide (x3_2 < (a0.size : Int)) = true := decide_eq_true c10
                          clear c10
                          by_cases c12 : (bt a0 x5_3) = (bt a0 x3_2)
                          · rw [if_pos c12] at H
                            have c12b0 : ((bt a0 x5_3) == (bt a0 x3_2)) = true := beq_iff_eq.mpr c12
                            have c12b1 : ((bt a0 x5_3) != (bt a0 x3_2)) = false := bne_eq_false_iff_eq.mpr c12
                            clear c12
                            have H' := Aside0.mk H
                            clear H
                            have p8 : 0 ≤ (x5_3 : Int) := of_decide_eq_true (by first | (with_reducible assumption) | assumption)
                            have q8 : x5_3 < (a0.size : Int) := of_decide_eq_true (by first | (with_reducible assumption) | assumption)
                            have hx8 := bt_at a0 x5_3
                            replace p8 := eq_true p8
                            replace q8 := eq_true q8
                            have p11 : 0 ≤ (x3_2 : Int) := of_decide_eq_true (by first | (with_reducible assumption) | assumption)
                            have q11 : x3_2 < (a0.size : Int) := of_decide_eq_true (by first | (with_reducible assumption) | assumption)
                            have hx11 := bt_at a0 x3_2
                            replace p11 := eq_true p11
                            replace q11 := eq_true q11
                            go_wp2
                            repeat (go_quiet (fail); try go_wp2)
                            go_roundg k3
                            case measure => have := HJ1.out; have := HK2.out; have := HK3.out; omega
                            case rel => exact ⟨(wrap64 (x4_3 + 1)), (wrap64 (x5_3 + 1)), (by first | rfl | (simp; done) | (simp [*]; done)), (by first | rfl | (simp; done) | (simp [*]; done)), H', ⟨by have := HJ1.out; have := HK2.out; have := HK3.out; omega⟩, by repeat (first | exact Drawn0.refl _ | apply Drawn0.step)⟩
                          · rw [if_neg c12] at H
                            have c12b0 : ((bt a0 x5_3) == (bt a0 x3_2)) = false := beq_eq_false_iff_ne.mpr c12
                            have c12b1 : ((bt a0 x5_3) != (bt a0 x3_2)) = true := bne_iff_ne.mpr c12
                            have H' := Aside0.mk H
                            clear H
                            have p8 : 0 ≤ (x5_3 : Int) := of_decide_eq_true (by first | (with_reducible assumption) | assumption)
                            have q8 : x5_3 < (a0.size : Int) := of_decide_eq_true (by first | (with_reducible assumption) | assumption)
                            have hx8 := bt_at a0 x5_3
                            replace p8 := eq_true p8
                            replace q8 := eq_true q8
                            have p11 : 0 ≤ (x3_2 : Int) := of_decide_eq_true (by first | (with_reducible assumption) | assumption)
                            have q11 : x3_2 < (a0.size : Int) := of_decide_eq_true (by first | (with_reducible assumption) | assumption)
                            have hx11 := bt_at a0 x3_2
                            replace p11 := eq_true p11
                            replace q11 := eq_true q11
                            go_wp2
                            repeat (go_quiet (fail); try go_wp2)
                            go_roundg k3
                            case measure => have := HJ1.out; have := HK2.out; have := HK3.out; omega
                            case rel => exact ⟨(x4_3), (wrap64 (x5_3 + 1)), (by first | rfl | (simp; done) | (simp [*]; done)), (by first | rfl | (simp; done) | (simp [*]; done)), H', ⟨by have := HJ1.out; have := HK2.out; have := HK3.out; omega⟩, by repeat (first | exact Drawn0.refl _ | apply Drawn0.step)⟩
                        · rw [if_neg c10] at H
                          exact absurd H (by simp)
                      · rw [if_neg c9] at H
                        exact absurd H (by simp)
                    · rw [if_neg c7] at H
                      exact absurd H (by simp)
                  · rw [if_neg c6] at H
                    have c6b0 : decide (x5_3 < (a0.size : Int)) = false := decide_eq_false c6
                    clear c6
                    by_cases c13 : x4_3 = 2
                    · rw [if_pos c13] at H
                      have c13b0 : (x4_3 == 2) = true := beq_iff_eq.mpr c13
                      have c13b1 : (x4_3 != 2) = false := bne_eq_false_iff_eq.mpr c13
                      clear c13
                      have H' := Aside0.mk H
                      clear H
                      go_wp2
                      repeat (go_quiet (fail); try go_wp2)
                      go_roundg k3
                      case measure => have := HJ1.out; have := HK2.out; have := HK3.out; omega
                      case rel => exact ⟨(wrap64 (x3_2 + 1)), (by first | rfl | (simp; done) | (simp [*]; done)), H', ⟨by have := HJ1.out; have := HK2.out; have := HK3.out; omega⟩, by repeat (first | exact Drawn0.refl _ | apply Drawn0.step)⟩
                    · rw [if_neg c13] at H
                      have c13b0 : (x4_3 == 2) = false := beq_eq_false_iff_ne.mpr c13
                      have c13b1 : (x4_3 != 2) = true := bne_iff_ne.mpr c13
                      obtain rfl := Option.some.inj H
                      go_wp2
                      repeat (go_quiet (fail); try go_wp2)
                      go_ret
                      exact ⟨by first | rfl | (simp; done) | (simp [*]; done), by repeat (first | exact Drawn0.refl _ | apply Drawn0.step)⟩
            · rw [if_neg c5] at H
              have c5b0 : decide (x3_2 < (a0.size : Int)) = false := decide_eq_false c5
              clear c5
              replace H := Option.bind_eq_some_iff.mp H
              obtain ⟨t152, A140, H⟩ := H
              replace H : (some (t152.toList == a0.toList)) = some r := H
              have A14 := Aside0.mk A140
              clear A140
              obtain rfl := Option.some.inj H
              go_wp2_with (first | (go_at_call 75; (with_reducible refine (spec_loAnew.calls k2 a0 t152 _ A14.out).mono ?_); rintro e w' ⟨rfl, ⟨nd, rfl⟩⟩; (try first | exact ⟨rfl, _, World.drewN_drewN _ _ _⟩ | exact ⟨rfl, _, Eq.trans (World.drewN_drewN _ _ _) (congrArg (World.drewN _) (Nat.add_assoc _ _ _))⟩)))
              repeat (go_quiet (first | (go_at_call 75; (with_reducible refine (spec_loAnew.calls k2 a0 t152 _ A14.out).mono ?_); rintro e w' ⟨rfl, ⟨nd, rfl⟩⟩; (try first | exact ⟨rfl, _, World.drewN_drewN _ _ _⟩ | exact ⟨rfl, _, Eq.trans (World.drewN_drewN _ _ _) (congrArg (World.drewN _) (Nat.add_assoc _ _ _))⟩))); try go_wp2_with (first | (go_at_call 75; (with_reducible refine (spec_loAnew.calls k2 a0 t152 _ A14.out).mono ?_); rintro e w' ⟨rfl, ⟨nd, rfl⟩⟩; (try first | exact ⟨rfl, _, World.drewN_drewN _ _ _⟩ | exact ⟨rfl, _, Eq.trans (World.drewN_drewN _ _ _) (congrArg (World.drewN _) (Nat.add_assoc _ _ _))⟩))))
              go_ret
              exact ⟨by first | rfl | (simp; done) | (simp [*]; done), by repeat (first | exact Drawn0.refl _ | apply Drawn0.step)⟩

end Go.Proofs.YtcgoaipbfnhjhaaGreatDoor.Pr

-- Written by a program for this claim.
namespace Go.Proofs.YtcgoaipbfnhjhaaGreatDoor.Pr
open Go.RowKit Go.Proofs.YtcgoaipbfnhjhaaGreatDoorW.PrintWords Go.Proofs.YtcgoaipbfnhjhaaGreatDoorW.PrintLast Go.Proofs.YtcgoaipbfnhjhaaGreatDoorW.PrintMore
attribute [local go_sem] max2_int min2_int max_two min_two max_three min_three max_four min_four   -- for this text's walks alone
set_option linter.unusedVariables false
set_option linter.unusedSimpArgs false

/-! ### spec_loPlaces: function 86 -/
def spec_loPlaces.l0 : Nat → ByteArray → Int → Int → Int → Int → Option (Int × Int)
  | 0, _, _, _, _, _ => none
  | k + 1, x0, x1, x6, x7, x8 => if x8 < (x0.size : Int) then (if 0 ≤ x8 then (if (bt x0 x8) = x1 then (if x6 < 0 then (spec_loPlaces.l0 k x0 x1 x8 x8 (wrap64 (x8 + 1))) else (spec_loPlaces.l0 k x0 x1 x6 x8 (wrap64 (x8 + 1)))) else (spec_loPlaces.l0 k x0 x1 x6 x7 (wrap64 (x8 + 1)))) else (none)) else (some (x6, x7))
def spec_loPlaces.f (k : Nat) (a0 : ByteArray) (a1 : Int) : Option (Int × Int) := spec_loPlaces.l0 k a0 a1 (-1) (-1) 0
theorem spec_loPlaces.mono_l : ∀ k, (∀ y0 y1 y2 y3 y4, LeO (spec_loPlaces.l0 k y0 y1 y2 y3 y4) (spec_loPlaces.l0 (k + 1) y0 y1 y2 y3 y4))
  | 0 => fun _ _ _ _ _ r h => by simp [spec_loPlaces.l0] at h
  | k + 1 => by
    have ih0 := spec_loPlaces.mono_l k
    · intro y0 y1 y2 y3 y4
      unfold spec_loPlaces.l0
      repeat' first
      | (with_reducible exact ih0 _ _ _ _ _)
      | (with_reducible exact LeO.refl _)
      | (with_reducible exact LeO.none _)
      | (with_reducible refine LeO.ite ?_ ?_)
      | (with_reducible refine LeO.bind ?_ (fun _ => ?_))
      | exact ih0 _ _ _ _ _
      | exact LeO.none _
      | refine LeO.ite ?_ ?_
      | refine LeO.bind ?_ (fun _ => ?_)
theorem spec_loPlaces.mono : ∀ a0 a1 k, LeO (spec_loPlaces.f k a0 a1) (spec_loPlaces.f (k + 1) a0 a1) := by
  intro a0 a1 k
  have ih0 := spec_loPlaces.mono_l k
  unfold spec_loPlaces.f
  repeat' first
      | (with_reducible exact ih0 _ _ _ _ _)
      | (with_reducible exact LeO.refl _)
      | (with_reducible exact LeO.none _)
      | (with_reducible refine LeO.ite ?_ ?_)
      | (with_reducible refine LeO.bind ?_ (fun _ => ?_))
      | exact ih0 _ _ _ _ _
      | exact LeO.none _
      | refine LeO.ite ?_ ?_
      | refine LeO.bind ?_ (fun _ => ?_)
set_option maxHeartbeats 8000000 in
set_option maxRecDepth 100000 in
theorem spec_loPlaces.calls (k : Nat) (a0 : ByteArray) (a1 : Int) (r1 : Int) (r2 : Int) (w : World) (h : spec_loPlaces.f k a0 a1 = some (r1, r2)) :
    Calls Tryz.prog 86 #[.string a0, .int .u8 a1] w fun e w' => e = .returned (.tuple #[.int .i64 r1, .int .i64 r2]) ∧ Drawn0 w w' := by
  have H : (spec_loPlaces.l0 k a0 a1 (-1) (-1) 0) = some (r1, r2) := h
  clear h
  have H' := Aside0.mk H
  clear H
  go_enter Tryz.func86, Tryz.ntmps86
  go_wp2
  go_loopg [6, 7, 8] k (fun kq v6 v7 v8 w' => ∃ (x6_1 : Int) (x7_1 : Int) (x8_1 : Int), v6 = .int .i64 x6_1 ∧ v7 = .int .i64 x7_1 ∧ v8 = .int .i64 x8_1 ∧ Aside0 (spec_loPlaces.l0 kq a0 a1 x6_1 x7_1 x8_1 = some (r1, r2)) ∧ Aside0 (kq ≤ k) ∧ Drawn0 w w')
  case atStart => exact ⟨((-1)), ((-1)), (0), (by first | rfl | (simp; done) | (simp [*]; done)), (by first | rfl | (simp; done) | (simp [*]; done)), (by first | rfl | (simp; done) | (simp [*]; done)), H', ⟨Nat.le_refl _⟩, by repeat (first | exact Drawn0.refl _ | apply Drawn0.step)⟩
  case round =>
    clear H'
    try clear p2
    obtain ⟨x6_1, x7_1, x8_1, rfl, rfl, rfl, HA, HK1, ⟨m1, rfl⟩⟩ := hrel
    cases gk with
    | zero => exact absurd HA.out (by simp [spec_loPlaces.l0])
    | succ k1 =>
      have H := HA.out
      clear HA
      simp only [spec_loPlaces.l0] at H
      by_cases c3 : x8_1 < (a0.size : Int)
      · rw [if_pos c3] at H
        have c3b0 : decide (x8_1 < (a0.size : Int)) = true := decide_eq_true c3
        clear c3
        by_cases c4 : 0 ≤ x8_1
        · rw [if_pos c4] at H
          have c4b0 : decide (0 ≤ x8_1) = true := decide_eq_true c4
          clear c4
          by_cases c6 : (bt a0 x8_1) = a1
          · rw [if_pos c6] at H
            have c6b0 : ((bt a0 x8_1) == a1) = true := beq_iff_eq.mpr c6
            have c6b1 : ((bt a0 x8_1) != a1) = false := bne_eq_false_iff_eq.mpr c6
            clear c6
            by_cases c7 : x6_1 < 0
            · rw [if_pos c7] at H
              have c7b0 : decide (x6_1 < 0) = true := decide_eq_true c7
              clear c7
              have H' := Aside0.mk H
              clear H
              have p5 : 0 ≤ (x8_1 : Int) := of_decide_eq_true (by first | (with_reducible assumption) | assumption)
              have q5 : x8_1 < (a0.size : Int) := of_decide_eq_true (by first | (with_reducible assumption) | assumption)
              have hx5 := bt_at a0 x8_1
              replace p5 := eq_true p5
              replace q5 := eq_true q5
              go_wp2
              go_roundg k1
              case measure => have := HK1.out; omega
              case rel => exact ⟨(x8_1), (x8_1), (wrap64 (x8_1 + 1)), (by first | rfl | (simp; done) | (simp [*]; done)), (by first | rfl | (simp; done) | (simp [*]; done)), (by first | rfl | (simp; done) | (simp [*]; done)), H', ⟨by have := HK1.out; omega⟩, by repeat (first | exact Drawn0.refl _ | apply Drawn0.step)⟩
            · rw [if_neg c7] at H
              have c7b0 : decide (x6_1 < 0) = false := decide_eq_false c7
              clear c7
              have H' := Aside0.mk H
              clear H
              have p5 : 0 ≤ (x8_1 : Int) := of_decide_eq_true (by first | (with_reducible assumption) | assumption)
              have q5 : x8_1 < (a0.size : Int) := of_decide_eq_true (by first | (with_reducible assumption) | assumption)
              have hx5 := bt_at a0 x8_1
              replace p5 := eq_true p5
              replace q5 := eq_true q5
              go_wp2
              go_roundg k1
              case measure => have := HK1.out; omega
              case rel => exact ⟨(x6_1), (x8_1), (wrap64 (x8_1 + 1)), (by first | rfl | (simp; done) | (simp [*]; done)), (by first | rfl | (simp; done) | (simp [*]; done)), (by first | rfl | (simp; done) | (simp [*]; done)), H', ⟨by have := HK1.out; omega⟩, by repeat (first | exact Drawn0.refl _ | apply Drawn0.step)⟩
          · rw [if_neg c6] at H
            have c6b0 : ((bt a0 x8_1) == a1) = false := beq_eq_false_iff_ne.mpr c6
            have c6b1 : ((bt a0 x8_1) != a1) = true := bne_iff_ne.mpr c6
            have H' := Aside0.mk H
            clear H
            have p5 : 0 ≤ (x8_1 : Int) := of_decide_eq_true (by first | (with_reducible assumption) | assumption)
            have q5 : x8_1 < (a0.size : Int) := of_decide_eq_true (by first | (with_reducible assumption) | assumption)
            have hx5 := bt_at a0 x8_1
            replace p5 := eq_true p5
            replace q5 := eq_true q5
            go_wp2
            go_roundg k1
            case measure => have := HK1.out; omega
            case rel => exact ⟨(x6_1), (x7_1), (wrap64 (x8_1 + 1)), (by first | rfl | (simp; done) | (simp [*]; done)), (by first | rfl | (simp; done) | (simp [*]; done)), (by first | rfl | (simp; done) | (simp [*]; done)), H', ⟨by have := HK1.out; omega⟩, by repeat (first | exact Drawn0.refl _ | apply Drawn0.step)⟩
        · rw [if_neg c4] at H
          exact absurd H (by simp)
      · rw [if_neg c3] at H
        have c3b0 : decide (x8_1 < (a0.size : Int)) = false := decide_eq_false c3
        clear c3
        simp only [Option.some.injEq, Prod.mk.injEq] at H
        obtain ⟨rfl, rfl⟩ := H
        go_wp2
        go_ret2
        exact ⟨by first | rfl | (simp; done) | (simp [*]; done), by repeat (first | exact Drawn0.refl _ | apply Drawn0.step)⟩

end Go.Proofs.YtcgoaipbfnhjhaaGreatDoor.Pr

-- Written by a program for this claim.
namespace Go.Proofs.YtcgoaipbfnhjhaaGreatDoor.Pr
open Go.RowKit Go.Proofs.YtcgoaipbfnhjhaaGreatDoorW.PrintWords Go.Proofs.YtcgoaipbfnhjhaaGreatDoorW.PrintLast Go.Proofs.YtcgoaipbfnhjhaaGreatDoorW.PrintMore
attribute [local go_sem] max2_int min2_int max_two min_two max_three min_three max_four min_four   -- for this text's walks alone
set_option linter.unusedVariables false
set_option linter.unusedSimpArgs false

/-! ### spec_loLaced: function 96 -/
def spec_loLaced.l0 : Nat → ByteArray → Int → Int → Int → Int → Int → Option (Bool)
  | 0, _, _, _, _, _, _ => none
  | k + 1, x0, x1, x2, x8, x9, x10 => if x10 < x8 then (if 0 ≤ x10 then (if x10 < (x0.size : Int) then (if (bt x0 x10) = x2 then (spec_loLaced.l0 k x0 x1 x2 x8 (wrap64 (x9 + 1)) (wrap64 (x10 + 1))) else (spec_loLaced.l0 k x0 x1 x2 x8 x9 (wrap64 (x10 + 1)))) else (none)) else (none)) else (if x1 = x2 then (some false) else (some (x9 == 1)))
def spec_loLaced.f (k : Nat) (a0 : ByteArray) (a1 : Int) (a2 : Int) : Option (Bool) := (spec_loPlaces.f k a0 a1).bind fun bt154 => (spec_loLaced.l0 k a0 a1 a2 bt154.2 0 (wrap64 (bt154.1 + 1)))
theorem spec_loLaced.mono_l : ∀ k, (∀ y0 y1 y2 y3 y4 y5, LeO (spec_loLaced.l0 k y0 y1 y2 y3 y4 y5) (spec_loLaced.l0 (k + 1) y0 y1 y2 y3 y4 y5))
  | 0 => fun _ _ _ _ _ _ r h => by simp [spec_loLaced.l0] at h
  | k + 1 => by
    have ih0 := spec_loLaced.mono_l k
    · intro y0 y1 y2 y3 y4 y5
      unfold spec_loLaced.l0
      repeat' first
      | (with_reducible exact ih0 _ _ _ _ _ _)
      | (with_reducible exact spec_loPlaces.mono _ _ _)
      | (with_reducible exact LeO.refl _)
      | (with_reducible exact LeO.none _)
      | (with_reducible refine LeO.ite ?_ ?_)
      | (with_reducible refine LeO.bind ?_ (fun _ => ?_))
      | exact ih0 _ _ _ _ _ _
      | exact spec_loPlaces.mono _ _ _
      | exact LeO.none _
      | refine LeO.ite ?_ ?_
      | refine LeO.bind ?_ (fun _ => ?_)
theorem spec_loLaced.mono : ∀ a0 a1 a2 k, LeO (spec_loLaced.f k a0 a1 a2) (spec_loLaced.f (k + 1) a0 a1 a2) := by
  intro a0 a1 a2 k
  have ih0 := spec_loLaced.mono_l k
  unfold spec_loLaced.f
  repeat' first
      | (with_reducible exact ih0 _ _ _ _ _ _)
      | (with_reducible exact spec_loPlaces.mono _ _ _)
      | (with_reducible exact LeO.refl _)
      | (with_reducible exact LeO.none _)
      | (with_reducible refine LeO.ite ?_ ?_)
      | (with_reducible refine LeO.bind ?_ (fun _ => ?_))
      | exact ih0 _ _ _ _ _ _
      | exact spec_loPlaces.mono _ _ _
      | exact LeO.none _
      | refine LeO.ite ?_ ?_
      | refine LeO.bind ?_ (fun _ => ?_)
set_option maxHeartbeats 8000000 in
set_option maxRecDepth 100000 in
theorem spec_loLaced.calls (k : Nat) (a0 : ByteArray) (a1 : Int) (a2 : Int) (r : Bool) (w : World) (h : spec_loLaced.f k a0 a1 a2 = some r) :
    Calls Tryz.prog 96 #[.string a0, .int .u8 a1, .int .u8 a2] w fun e w' => e = .returned (.bool r) ∧ Drawn0 w w' := by
  have H : ((spec_loPlaces.f k a0 a1).bind fun bt154 => (spec_loLaced.l0 k a0 a1 a2 bt154.2 0 (wrap64 (bt154.1 + 1)))) = some r := h
  clear h
  replace H := Option.bind_eq_some_iff.mp H
  obtain ⟨⟨t154, t155⟩, A40, H⟩ := H
  replace H : (spec_loLaced.l0 k a0 a1 a2 t155 0 (wrap64 (t154 + 1))) = some r := H
  have A4 := Aside0.mk A40
  clear A40
  have H' := Aside0.mk H
  clear H
  go_enter Tryz.func96, Tryz.ntmps96
  go_wp2_with (first | ((with_reducible refine gate_callee (f := 86) rfl ?_); refine goesL_ (some 14) rfl rfl Tryz.func86 (by kernel_rfl) rfl #[.string a0, .int .u8 a1] rfl (by (try simp only [List.map_toArray, List.map_cons, List.map_nil]); first | done | rfl | (simp only [List.length_drop, List.length_take]; rfl)) ?_; (with_reducible refine (spec_loPlaces.calls k a0 a1 t154 t155 _ A4.out).mono ?_); rintro e w' ⟨rfl, ⟨nd, rfl⟩⟩; refine ⟨_, rfl, ?_⟩))
  go_loopg [9, 10] k (fun kq v9 v10 w' => ∃ (x9_1 : Int) (x10_1 : Int), v9 = .int .i64 x9_1 ∧ v10 = .int .i64 x10_1 ∧ Aside0 (spec_loLaced.l0 kq a0 a1 a2 t155 x9_1 x10_1 = some r) ∧ Aside0 (kq ≤ k) ∧ Drawn0 w w')
  case atStart => exact ⟨(0), (wrap64 (t154 + 1)), (by first | rfl | (simp; done) | (simp [*]; done)), (by first | rfl | (simp; done) | (simp [*]; done)), H', ⟨Nat.le_refl _⟩, by repeat (first | exact Drawn0.refl _ | apply Drawn0.step)⟩
  case round =>
    clear H'
    try clear p2
    obtain ⟨x9_1, x10_1, rfl, rfl, HA, HK1, ⟨m1, rfl⟩⟩ := hrel
    cases gk with
    | zero => exact absurd HA.out (by simp [spec_loLaced.l0])
    | succ k1 =>
      have H := HA.out
      clear HA
      simp only [spec_loLaced.l0] at H
      by_cases c5 : x10_1 < t155
      · rw [if_pos c5] at H
        have c5b0 : decide (x10_1 < t155) = true := decide_eq_true c5
        clear c5
        by_cases c6 : 0 ≤ x10_1
        · rw [if_pos c6] at H
          have c6b0 : decide (0 ≤ x10_1) = true := decide_eq_true c6
          clear c6
          by_cases c7 : x10_1 < (a0.size : Int)
          · rw [if_pos c7] at H
            have c7b0 : decide (x10_1 < (a0.size : Int)) = true := decide_eq_true c7
            clear c7
            by_cases c9 : (bt a0 x10_1) = a2
            · rw [if_pos c9] at H
              have c9b0 : ((bt a0 x10_1) == a2) = true := beq_iff_eq.mpr c9
              have c9b1 : ((bt a0 x10_1) != a2) = false := bne_eq_false_iff_eq.mpr c9
              clear c9
              have H' := Aside0.mk H
              clear H
              have p8 : 0 ≤ (x10_1 : Int) := of_decide_eq_true (by first | (with_reducible assumption) | assumption)
              have q8 : x10_1 < (a0.size : Int) := of_decide_eq_true (by first | (with_reducible assumption) | assumption)
              have hx8 := bt_at a0 x10_1
              replace p8 := eq_true p8
              replace q8 := eq_true q8
              go_wp2
              go_roundg k1
              case measure => have := HK1.out; omega
              case rel => exact ⟨(wrap64 (x9_1 + 1)), (wrap64 (x10_1 + 1)), (by first | rfl | (simp; done) | (simp [*]; done)), (by first | rfl | (simp; done) | (simp [*]; done)), H', ⟨by have := HK1.out; omega⟩, by repeat (first | exact Drawn0.refl _ | apply Drawn0.step)⟩
            · rw [if_neg c9] at H
              have c9b0 : ((bt a0 x10_1) == a2) = false := beq_eq_false_iff_ne.mpr c9
              have c9b1 : ((bt a0 x10_1) != a2) = true := bne_iff_ne.mpr c9
              have H' := Aside0.mk H
              clear H
              have p8 : 0 ≤ (x10_1 : Int) := of_decide_eq_true (by first | (with_reducible assumption) | assumption)
              have q8 : x10_1 < (a0.size : Int) := of_decide_eq_true (by first | (with_reducible assumption) | assumption)
              have hx8 := bt_at a0 x10_1
              replace p8 := eq_true p8
              replace q8 := eq_true q8
              go_wp2
              go_roundg k1
              case measure => have := HK1.out; omega
              case rel => exact ⟨(x9_1), (wrap64 (x10_1 + 1)), (by first | rfl | (simp; done) | (simp [*]; done)), (by first | rfl | (simp; done) | (simp [*]; done)), H', ⟨by have := HK1.out; omega⟩, by repeat (first | exact Drawn0.refl _ | apply Drawn0.step)⟩
          · rw [if_neg c7] at H
            exact absurd H (by simp)
        · rw [if_neg c6] at H
          exact absurd H (by simp)
      · rw [if_neg c5] at H
        have c5b0 : decide (x10_1 < t155) = false := decide_eq_false c5
        clear c5
        by_cases c10 : a1 = a2
        · rw [if_pos c10] at H
          have c10b0 : (a1 == a2) = true := beq_iff_eq.mpr c10
          have c10b1 : (a1 != a2) = false := bne_eq_false_iff_eq.mpr c10
          clear c10
          obtain rfl := Option.some.inj H
          go_wp2
          go_ret
          exact ⟨by first | rfl | (simp; done) | (simp [*]; done), by repeat (first | exact Drawn0.refl _ | apply Drawn0.step)⟩
        · rw [if_neg c10] at H
          have c10b0 : (a1 == a2) = false := beq_eq_false_iff_ne.mpr c10
          have c10b1 : (a1 != a2) = true := bne_iff_ne.mpr c10
          obtain rfl := Option.some.inj H
          go_wp2
          go_ret
          exact ⟨by first | rfl | (simp; done) | (simp [*]; done), by repeat (first | exact Drawn0.refl _ | apply Drawn0.step)⟩

end Go.Proofs.YtcgoaipbfnhjhaaGreatDoor.Pr
