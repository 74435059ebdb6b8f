/- The program's DropCrossing returns what the reference's returns, for all arguments. Condition: none. -/
import Derived.Handed
import Derived.HandedShaped
import Derived.Test.YtgdpeabbmbclbaaDoorProg
import Derived.Shelf.Strings.SplitShaped
import Derived.Ground.NamesProg
import Derived.Below
import Derived.Deep.Draws
import Derived.Deep.AppendLies
import Derived.Maps.AppendAt
import Derived.OwnWalk
import Derived.Laws.BytesArg
import Derived.Laws.MakeOwn
import Derived.Laws.OwnMore
import Derived.Deep.OwnRows
import Derived.Tactics
import Derived.Lib.ConvBytes
import Derived.Laws.Slices
import Derived.WalkKit
import Derived.KernelRfl
import Derived.RowKit3
import Derived.Deep.LoopGhost
import Derived.Deep.QuietTactic
import Derived.BigQuiet
import Derived.WideLaws
import Derived.Deep.DeepCutAuto
import Derived.Deep.CutBlock
import Derived.Deep.RegionHeld3
import Derived.Laws.Rows
import Derived.Lib.AppendStr
import Derived.ArgAppend
import Derived.Laws.IdiomCopy
import Derived.OrdersHeld
import Derived.Laws.BitsLemmas
import Derived.RowKit
import Derived.Shelf.Abstract
import Derived.Shelf.Small.Strs
import Derived.Shelf.Strings.LastIndex
import Derived.Shelf.Strings.Count
import Derived.Shelf.Strings.Search3
import Derived.Shelf.Strings.SlTrimAscii
import Derived.Laws.Strings
import Derived.Deep.RegionWith
import Derived.Lib.Bytealg
import Derived.Lib.SplitLaws
import Derived.Deep.Slices
import Derived.Deep.Fields
import Derived.ChangeSame
import Derived.ChangeShapes
import Derived.Carry
import Derived.Lib.SmallJoins
import Derived.OpenShut
import Derived.Test.YtgdpeabbmbclbaaDoorCards
import Derived.Test.YtgdpeabbmbclbaaDoorTie
import Derived.LaidMore
import Derived.Lay
import Derived.Stop.Joined
import Derived.SevenTiedAt
import Derived.Test.YtgdpeabbmbclbaaDoorRows
import Derived.ProofKit
import Derived.ShutString
import Derived.ChangeOld
import Derived.SizedLaws
import Derived.ChangeSlices
import Derived.Test.YtgdpeabbmbclbaaDoorKFnExactDropCrossing0
/- The wrap of a row whose contract wants the world's shape too: a variable of the library's own holds some number. -/
namespace Go.Proofs.YtgdpeabbmbclbaaDoor.RowS
open Go
variable {H : Type} {enc : TypeId × Value → H}

theorem returns_and_shaped {a : Assume} {C : Checked} {os : Os} {f : FuncId} {fn : Func} {s : ChangeSpec} {conds : List PathCond} {apart fresh handsOn again : Bool} {X : World → Array Value → Prop}
    (hX : ∀ (w w' : World) (args : Array Value), w.heap = w'.heap → X w args → X w' args)
    (own : ownKnob C.prog.godebug = none) (started : os.Started) (noInit : C.prog.inits.idxOf? f = none) (hfn : C.prog.funcs[f]? = some fn)
    (witness : ∃ (w : World) (tape : Tape) (i : Input), w.os = os ∧ (w.forCall tape i).Shaped C.prog ∧ i.vars = [] ∧ Input.okWide C.prog (w.forCall tape i) .any w.heap.size f i ∧
      ((s.pre enc C.prog fn conds apart (w.forCall tape i).memory i.args ∧ X (w.forCall tape i).memory i.args) ∧ sizedMet enc C.prog fn (OpenSpec.ofChange s) apart (w.forCall tape i).memory i.args) ∧ a.holds C.prog (lone (Frame.enter C.prog f i.args .normal) [] (w.forCall tape i)))
    (contract : ∀ (W : World) (base : Nat) (args : Array Value) (ds gs : List (DataW H)) (before : List MemPlace),
      (∀ (j : Nat) t v, fn.params[j]? = some t → args[j]? = some v → Value.okWide C.prog W .any base t v) →
      DataW.Whole enc C.prog fn.params.toList s.vars apart W args.toList ds gs before →
      conds.all (PathCond.test C.prog ⟨fn.params.toList, ds, s.plain.varTypes C.prog, gs⟩) = true →
      (DataW.weightsEach C.prog (fn.params.toList ++ s.plain.varTypes C.prog) (ds ++ gs)).all (· ≤ reachBytes) = true → X W args → W.ShapedOpen C.prog →
      a.holds C.prog (lone (Frame.enter C.prog f args .normal) [] W) →
      Calls C.prog f args W fun e W' => ∃ v, e = .returned v ∧ s.post enc C.prog fn apart fresh handsOn again W args v W') :
    ReturnsInHanded a C os f .any (fun w args => (s.pre enc C.prog fn conds apart w args ∧ X w args) ∧ sizedMet enc C.prog fn (OpenSpec.ofChange s) apart w args) (s.post enc C.prog fn apart fresh handsOn again) := by
  refine returnsInHanded_of_calls own started noInit witness ?_
  intro w tape i _ hsh _ hok hpre hholds
  obtain ⟨_, _, _, fn', hfn', _, _, _, _, hval⟩ := hok
  have e : fn' = fn := Option.some.inj (hfn'.symm.trans hfn)
  subst e
  obtain ⟨⟨⟨ds, gs, before, hw, hc⟩, hx⟩, hz⟩ := hpre
  have hw' := DataW.Whole.of_heap (w' := w.forCall tape i) (by rfl) hw
  refine (contract (w.forCall tape i) w.heap.size i.args ds gs before hval hw' hc (hz.weights hw) (hX _ _ _ (by rfl) hx) hsh hholds).mono fun e W' ⟨v, he, hp⟩ => ?_
  subst he
  exact ChangeSpec.post_blind hp
end Go.Proofs.YtgdpeabbmbclbaaDoor.RowS

/-
  DERIVED: THE SHELF's CONTRACTS AT THIS DUMP, IN PLAIN WORDS (tools/lay-plain.mjs out of 'YtgdpeabbmbclbaaDoorRepLay.lean', which tools/lay-shelf.mjs wrote): THE SAME DECLARATIONS UNDER THE SAME NAMES: 'import', 'namespace', 'open', 'def', 'theorem' AND NOTHING ELSE: no command of the shelf's: FOR A HAND-IN. Each laying: the table of numbers ('.._ren') and one theorem, a field a fact of the dump's own or the kernel's comparison; each contract: ONE APPLICATION.
-/
namespace Go.Proofs
open Go.Shelf
def Tryd.m155_ren : Go.Shelf.Ren := ⟨fun | 155 => 56 | 154 => 73 | 138 => 38 | 165 => 80 | 143 => 67 | 166 => 81 | 197 => 75 | 169 => 82 | 195 => 65 | 218 => 66 | 240 => 89 | 241 => 90 | 219 => 78 | 260 => 83 | 276 => 93 | 277 => 94 | 217 => 71 | 225 => 86 | 224 => 87 | 267 => 88 | 266 => 79 | 314 => 92 | n => n, fun | 9 => 9 | 3 => 3 | 4 => 4 | 72 => 64 | 0 => 0 | 76 => 68 | 105 => 59 | 21 => 21 | 5 => 5 | 70 => 62 | 20 => 20 | 37 => 37 | 75 => 67 | 127 => 74 | 164 => 83 | 46 => 73 | 119 => 75 | 139 => 78 | 138 => 77 | 146 => 81 | 51 => 80 | 80 => 70 | n => n, fun | 1 => 0 | 3 => 1 | 4 => 2 | n => n⟩
theorem Tryd.m155 : Go.Proofs.LaysM.n155 Tryd.prog Tryd.m155_ren := {
  mixed := by kernel_rfl
  f138 := Tryd.func38.trans (congrArg some (by kernel_rfl))
  f143 := Tryd.func67.trans (congrArg some (by kernel_rfl))
  f154 := Tryd.func73.trans (congrArg some (by kernel_rfl))
  f155 := Tryd.func56.trans (congrArg some (by kernel_rfl))
  f165 := Tryd.func80.trans (congrArg some (by kernel_rfl))
  f166 := Tryd.func81.trans (congrArg some (by kernel_rfl))
  f169 := Tryd.func82.trans (congrArg some (by kernel_rfl))
  f195 := Tryd.func65.trans (congrArg some (by kernel_rfl))
  f197 := Tryd.func75.trans (congrArg some (by kernel_rfl))
  f217 := Tryd.func71.trans (congrArg some (by kernel_rfl))
  f218 := Tryd.func66.trans (congrArg some (by kernel_rfl))
  f219 := Tryd.func78.trans (congrArg some (by kernel_rfl))
  f224 := Tryd.func87.trans (congrArg some (by kernel_rfl))
  f225 := Tryd.func86.trans (congrArg some (by kernel_rfl))
  f240 := Tryd.func89.trans (congrArg some (by kernel_rfl))
  f241 := Tryd.func90.trans (congrArg some (by kernel_rfl))
  f260 := Tryd.func83.trans (congrArg some (by kernel_rfl))
  f266 := Tryd.func79.trans (congrArg some (by kernel_rfl))
  f267 := Tryd.func88.trans (congrArg some (by kernel_rfl))
  f276 := Tryd.func93.trans (congrArg some (by kernel_rfl))
  f277 := Tryd.func94.trans (congrArg some (by kernel_rfl))
  f314 := Tryd.func92.trans (congrArg some (by kernel_rfl))
  t0 := Tryd.underlying0
  a0 := Tryd.isAgg0
  z0 := Tryd.sizeOf0
  v0 := Tryd.zeroValue0
  t3 := Tryd.underlying3
  a3 := Tryd.isAgg3
  z3 := Tryd.sizeOf3
  v3 := Tryd.zeroValue3
  t4 := Tryd.underlying4
  a4 := Tryd.isAgg4
  z4 := Tryd.sizeOf4
  v4 := Tryd.zeroValue4
  t5 := Tryd.underlying5
  a5 := Tryd.isAgg5
  z5 := Tryd.sizeOf5
  v5 := Tryd.zeroValue5
  t9 := Tryd.underlying9
  a9 := Tryd.isAgg9
  z9 := Tryd.sizeOf9
  v9 := Tryd.zeroValue9
  t20 := Tryd.underlying20
  a20 := Tryd.isAgg20
  z20 := Tryd.sizeOf20
  v20 := Tryd.zeroValue20
  t21 := Tryd.underlying21
  a21 := Tryd.isAgg21
  z21 := Tryd.sizeOf21
  v21 := Tryd.zeroValue21
  t37 := Tryd.underlying37
  a37 := Tryd.isAgg37
  z37 := Tryd.sizeOf37
  v37 := Tryd.zeroValue37
  t46 := Tryd.underlying73
  a46 := Tryd.isAgg73
  z46 := Tryd.sizeOf73
  v46 := Tryd.zeroValue73
  t51 := Tryd.underlying80
  a51 := Tryd.isAgg80
  z51 := Tryd.sizeOf80
  v51 := Tryd.zeroValue80
  t70 := Tryd.underlying62
  a70 := Tryd.isAgg62
  z70 := Tryd.sizeOf62
  v70 := Tryd.zeroValue62
  t72 := Tryd.underlying64
  a72 := Tryd.isAgg64
  z72 := Tryd.sizeOf64
  v72 := Tryd.zeroValue64
  t75 := Tryd.underlying67
  a75 := Tryd.isAgg67
  z75 := Tryd.sizeOf67
  v75 := Tryd.zeroValue67
  t76 := Tryd.underlying68
  a76 := Tryd.isAgg68
  z76 := Tryd.sizeOf68
  v76 := Tryd.zeroValue68
  t105 := Tryd.underlying59
  a105 := Tryd.isAgg59
  z105 := Tryd.sizeOf59
  v105 := Tryd.zeroValue59
  t119 := Tryd.underlying75
  a119 := Tryd.isAgg75
  z119 := Tryd.sizeOf75
  t127 := Tryd.underlying74
  a127 := Tryd.isAgg74
  z127 := Tryd.sizeOf74
  v127 := Tryd.zeroValue74
  t138 := Tryd.underlying77
  a138 := Tryd.isAgg77
  z138 := Tryd.sizeOf77
  v138 := Tryd.zeroValue77
  t139 := Tryd.underlying78
  a139 := Tryd.isAgg78
  z139 := Tryd.sizeOf78
  v139 := Tryd.zeroValue78
  t146 := Tryd.underlying81
  a146 := Tryd.isAgg81
  z146 := Tryd.sizeOf81
  v146 := Tryd.zeroValue81
  t164 := Tryd.underlying83
  a164 := Tryd.isAgg83
  z164 := Tryd.sizeOf83
  v164 := Tryd.zeroValue83
  g1 := by kernel_rfl
  g3 := by kernel_rfl
  g4 := by kernel_rfl
  t80 := Tryd.underlying70
  a80 := Tryd.isAgg70
  z80 := Tryd.sizeOf70
  v80 := Tryd.zeroValue70
  i0 := by kernel_rfl
  i3 := by kernel_rfl
  i4 := by kernel_rfl
  i5 := by kernel_rfl
  i9 := by kernel_rfl
  i20 := by kernel_rfl
  i21 := by kernel_rfl
  i37 := by kernel_rfl
  i46 := by kernel_rfl
  i51 := by kernel_rfl
  i70 := by kernel_rfl
  i72 := by kernel_rfl
  i75 := by kernel_rfl
  i76 := by kernel_rfl
  i80 := by kernel_rfl
  i105 := by kernel_rfl
  i127 := by kernel_rfl
  i138 := by kernel_rfl
  i139 := by kernel_rfl
  i146 := by kernel_rfl
  i164 := by kernel_rfl
  m1 := by kernel_rfl
  s1_3 := fun w h => Go.Proofs.cell_of_shapedOpen_int (zero := #[.int .i64 0]) (t := 3) h (of_decide_eq_true (by kernel_rfl)) (by kernel_rfl) rfl (by kernel_rfl) (by kernel_rfl) Tryd.underlying3
  m3 := by kernel_rfl
  m4 := by kernel_rfl }
theorem Tryd.extra155 : Builder.Extra Tryd.prog Tryd.m155_ren := {
  sizeBuilder := by kernel_rfl
  liesBuilder := by kernel_rfl
  t5 := Tryd.underlying5
  a5 := Tryd.isAgg5
  z5 := Tryd.sizeOf5
  v5 := Tryd.zeroValue5
  infoByte := by kernel_rfl
  cellsByte := by kernel_rfl
  sizeByte := by kernel_rfl
  neB5 := by decide }
open Go.RowKit in
theorem Tryd.replaceAll_ (s old new : ByteArray) (m : Int) (w : World) (hs : s.size < 4294967281) (hm : w.cell? ⟨Tryd.m155_ren.g 1, 0, none⟩ = some (.int .i64 m)) (h1 : 1 ≤ old.size) (hlen : s.size + Lib.countB s old * new.size ≤ 140737488355328) :
    Calls Tryd.prog 56 #[.string s, .string old, .string new] w fun e w' => e = .returned (.string ⟨(Lib.replaceAll s.data.toList old.data.toList new.data.toList).toArray⟩) ∧ Below w.heap.size w w' :=
  Any.strings_ReplaceAll { Tryd.m155 with } Tryd.extra155 s old new m w hs hm h1 hlen
end Go.Proofs

-- Written by a program for this claim.
namespace Go.Proofs.YtgdpeabbmbclbaaDoor.Pr
open Go.RowKit Go.Proofs.YtgdpeabbmbclbaaDoorW.PrintWords Go.Proofs.YtgdpeabbmbclbaaDoorW.PrintLast Go.Proofs.YtgdpeabbmbclbaaDoorW.PrintMore
attribute [local go_sem] max2_int min2_int max_two min_two max_three min_three max_four min_four   -- for this text's walks alone
set_option linter.unusedVariables false
set_option linter.unusedSimpArgs false



def errW : Option Int → Value
  | none => .nilIface
  | some c => .iface 0 (.int .i64 c)
theorem errW_none : errW none = .nilIface := rfl
theorem errW_some (c : Int) : errW (some c) = .iface 0 (.int .i64 c) := rfl

theorem info5 : (Tryd.prog.info? 5).map (fun i => (i.zero, i.size, i.bytes)) = some (some (.int .u8 0), 1, 1) := by kernel_rfl
-- the values' own types

end Go.Proofs.YtgdpeabbmbclbaaDoor.Pr

/- What is asked of a predicate that is handed to the library, and the place of the first element for which it holds. -/
namespace Go.Proofs.YtgdpeabbmbclbaaDoor.Pr
open Go.RowKit Go.Proofs.YtgdpeabbmbclbaaDoorW.PrintWords Go.Proofs.YtgdpeabbmbclbaaDoorW.PrintLast Go.Proofs.YtgdpeabbmbclbaaDoorW.PrintMore
set_option linter.unusedVariables false
set_option linter.unusedSimpArgs false

/-- A function value that tells p of the elements of a list, in any world in which what was there is as it was. -/
def PredB {α : Type} (g : Nat) (lb : Array Value) (enc : α → Value) (p : α → Bool) (zs : List α) (w : World) : Prop :=
  ∀ (W : World) (x : α), x ∈ zs → Below w.heap.size w W → Calls Tryd.prog g (#[enc x] ++ lb) W fun e w' => e = .returned (.bool (p x)) ∧ Below W.heap.size W w'
/-- The place of the first element for which p holds, or -1. -/
def idxP {α : Type} (p : α → Bool) : List α → Int
  | [] => -1
  | x :: r => if p x = true then 0 else if idxP p r < 0 then -1 else idxP p r + 1
theorem idxP_ge {α : Type} (p : α → Bool) : ∀ l : List α, -1 ≤ idxP p l
  | [] => by simp [idxP]
  | x :: r => by
    have := idxP_ge p r
    unfold idxP
    split
    · omega
    · split <;> omega
theorem idxP_nonneg {α : Type} (p : α → Bool) : ∀ l : List α, decide (idxP p l ≥ 0) = l.any p
  | [] => by simp [idxP]
  | x :: r => by
    have ih := idxP_nonneg p r
    unfold idxP
    rw [List.any_cons, ← ih]
    cases hx : p x with
    | true => simp
    | false =>
      simp only [Bool.false_eq_true, if_false, Bool.false_or]
      split
      · rename_i h; simp; omega
      · rename_i h; simp; omega
theorem idxP_none {α : Type} (p : α → Bool) : ∀ l : List α, (∀ x ∈ l, p x = false) → idxP p l = -1
  | [], _ => rfl
  | x :: r, h => by
    unfold idxP
    rw [if_neg (by rw [h x (List.mem_cons_self ..)]; simp), idxP_none p r (fun y hy => h y (List.mem_cons_of_mem _ hy))]
    simp
theorem idxP_at {α : Type} (p : α → Bool) : ∀ (l : List α) (i : Nat) (h : i < l.length), p l[i] = true → (∀ j (hj : j < i), p (l[j]'(by omega)) = false) → idxP p l = i
  | [], i, h, _, _ => by simp at h
  | x :: r, 0, h, hp, _ => by
    unfold idxP
    rw [if_pos (by simpa using hp)]
    rfl
  | x :: r, i + 1, h, hp, hn => by
    have h0 := hn 0 (by omega)
    have ih := idxP_at p r i (by simpa using h) (by simpa using hp) (fun j hj => by simpa using hn (j + 1) (by omega))
    unfold idxP
    rw [if_neg (by simp at h0; rw [h0]; simp), ih, if_neg (by omega)]
    omega

end Go.Proofs.YtgdpeabbmbclbaaDoor.Pr

/- What slices.IndexFunc and slices.ContainsFunc compute on bytes, for any predicate that leaves old memory as it was. -/
namespace Go.Proofs.YtgdpeabbmbclbaaDoor.Pr
open Go.RowKit Go.Proofs.YtgdpeabbmbclbaaDoorW.PrintWords Go.Proofs.YtgdpeabbmbclbaaDoorW.PrintLast Go.Proofs.YtgdpeabbmbclbaaDoorW.PrintMore
set_option linter.unusedVariables false
set_option linter.unusedSimpArgs false

def encB (x : Int) : Value := .int .u8 x
theorem rdB (l : List Int) (i : Nat) (h : i < l.length) : rd l (i : Int) = l[i] := by
  unfold rd
  simp [List.getD_eq_getElem?_getD, List.getElem?_eq_getElem h]

set_option maxHeartbeats 2000000 in
set_option maxRecDepth 100000 in
theorem indexFunc_byte (A : Option Addr) (c : Nat) (zs : List Int) (p : Int → Bool) (g : Nat) (lb : Array Value) (eg : ∀ args w, (callFunc g args).run Tryd.prog w = .ok (.enter g args) w) (w : World)
    (hr : Kd.C (Kd.int .u8) w A zs.length zs) (hc : zs.length ≤ c) (hp : PredB g lb encB p zs w) :
    Calls Tryd.prog 64 #[.slice A zs.length c, .func (.func g) #[] lb] w fun e w' => e = .returned (.int .i64 (idxP p zs)) ∧ Below w.heap.size w w' := by
  have hbig : zs.length ≤ 9223372036854775807 := hr.2.1
  have HR := Aside0.mk hr
  have HP := Aside0.mk hp
  clear hr hp hc
  go_enter Tryd.func64, Tryd.ntmps64
  go_wp2
  go_loopg [5, 8] zs.length (fun gg _ s8 wr => ∃ i : Nat, s8 = .int .i64 i ∧ Aside0 (i ≤ zs.length) ∧ Aside0 (zs.length - i ≤ gg) ∧ Aside0 (Below w.heap.size w wr) ∧ Aside0 (∀ j (hj : j < zs.length), j < i → p zs[j] = false))
  case atStart => exact ⟨0, rfl, ⟨Nat.zero_le _⟩, ⟨by omega⟩, ⟨Below.refl _ w⟩, ⟨fun j _ hj => absurd hj (Nat.not_lt_zero _)⟩⟩
  case round =>
    obtain ⟨i, rfl, HI, HG, HB, HA⟩ := hrel
    by_cases hlt : i < zs.length
    · have c4b0 : decide ((i : Int) < (zs.length : Int)) = true := decide_eq_true (by omega)
      have c5b0 : decide (i < zs.length) = true := decide_eq_true hlt
      obtain ⟨ad, e, h0⟩ := Kd.at_int HR.out (i : Int) (by omega) (by omega)
      cases e
      rw [rdB zs i hlt, Int.toNat_natCast] at h0
      replace h0 := (HB.out.cell (World.block_lt_of_cell? w _ h0)).trans h0
      have hcall := HP.out wr zs[i] (List.getElem_mem hlt) HB.out
      have hn := HA.out
      obtain ⟨y, hy⟩ : ∃ y, zs[i] = y := ⟨_, rfl⟩
      have HY := Aside0.mk hy
      rw [hy] at h0 hcall
      have HN := Aside0.mk hn
      clear hn hy
      cases hq : p y with
      | true =>
        rw [hq] at hcall
        have HQ := Aside0.mk hq
        clear hq
        go_wp2_with (go_at_fn g; refine hcall.mono ?_; rintro e w' ⟨rfl, hb1⟩)
        have hb' := HB.out.trans (hb1.mono HB.out.size)
        go_ret
        exact ⟨congrArg (fun z => Ending.returned (Value.int .i64 z)) (idxP_at p zs i hlt (by rw [HY.out]; exact HQ.out) (fun j hj => HN.out j (by omega) hj)).symm, hb'⟩
      | false =>
        rw [hq] at hcall
        have HQ := Aside0.mk hq
        clear hq
        go_wp2_with (go_at_fn g; refine hcall.mono ?_; rintro e w' ⟨rfl, hb1⟩)
        have hb' := HB.out.trans (hb1.mono HB.out.size)
        go_roundg (zs.length - (i + 1))
        case measure => have := HG.out; omega
        case rel =>
          refine ⟨i + 1, by go_num, ⟨by omega⟩, ⟨by omega⟩, ⟨hb'⟩, ⟨fun j hj hji => ?_⟩⟩
          by_cases e : j = i
          · subst e
            rw [HY.out]; exact HQ.out
          · exact HN.out j hj (by omega)
    · have c4b0 : decide ((i : Int) < (zs.length : Int)) = false := decide_eq_false (by omega)
      have c5b0 : decide (i < zs.length) = false := decide_eq_false hlt
      have hall := Aside0.mk (idxP_none p zs (fun x hx => by
        obtain ⟨j, hj, rfl⟩ := List.getElem_of_mem hx
        exact HA.out j hj (by omega)))
      have HB2 := HB
      clear HA HP HR
      go_wp2
      go_ret
      exact ⟨congrArg (fun z => Ending.returned (Value.int .i64 z)) hall.out.symm, HB2.out⟩

set_option maxHeartbeats 2000000 in
theorem containsFunc_byte (A : Option Addr) (c : Nat) (zs : List Int) (p : Int → Bool) (g : Nat) (lb : Array Value) (eg : ∀ args w, (callFunc g args).run Tryd.prog w = .ok (.enter g args) w) (w : World)
    (hr : Kd.C (Kd.int .u8) w A zs.length zs) (hc : zs.length ≤ c) (hp : PredB g lb encB p zs w) :
    Calls Tryd.prog 36 #[.slice A zs.length c, .func (.func g) #[] lb] w fun e w' => e = .returned (.bool (zs.any p)) ∧ Below w.heap.size w w' := by
  rw [← idxP_nonneg p zs]
  have hcon := indexFunc_byte A c zs p g lb eg w hr hc hp
  clear hr hp
  generalize idxP p zs = r at hcon ⊢
  go_enter Tryd.func36, Tryd.ntmps36
  go_wp2_with (go_at_call 64; refine hcon.mono ?_; rintro e w' ⟨rfl, hb'⟩)
  go_ret
  exact ⟨by simp, hb'⟩
end Go.Proofs.YtgdpeabbmbclbaaDoor.Pr

/-
  DERIVED: THE SHELF's CONTRACTS AT THIS DUMP, IN PLAIN WORDS (tools/lay-plain.mjs out of 'YtgdpeabbmbclbaaDoorStrLay.lean', which tools/lay-shelf.mjs wrote): THE SAME DECLARATIONS UNDER THE SAME NAMES: 'import', 'namespace', 'open', 'def', 'theorem' AND NOTHING ELSE: no command of the shelf's: FOR A HAND-IN. Each laying: the table of numbers ('.._ren') and one theorem, a field a fact of the dump's own or the kernel's comparison; each contract: ONE APPLICATION.
-/
namespace Go.Proofs
open Go.Shelf
def Tryd.l137_ren : Go.Shelf.Ren := ⟨fun | 137 => 53 | 217 => 71 | 266 => 79 | n => n, fun | 9 => 9 | 5 => 5 | 3 => 3 | n => n, fun | n => n⟩
theorem Tryd.l137 : Go.Proofs.Lays.n137 Tryd.prog Tryd.l137_ren := {
  mixed := by kernel_rfl
  f137 := Tryd.func53.trans (congrArg some (by kernel_rfl))
  f217 := Tryd.func71.trans (congrArg some (by kernel_rfl))
  f266 := Tryd.func79.trans (congrArg some (by kernel_rfl))
  t3 := Tryd.underlying3
  a3 := Tryd.isAgg3
  z3 := Tryd.sizeOf3
  v3 := Tryd.zeroValue3
  t5 := Tryd.underlying5
  a5 := Tryd.isAgg5
  z5 := Tryd.sizeOf5
  v5 := Tryd.zeroValue5
  t9 := Tryd.underlying9
  a9 := Tryd.isAgg9
  z9 := Tryd.sizeOf9
  v9 := Tryd.zeroValue9 }
def Tryd.l149_ren : Go.Shelf.Ren := ⟨fun | 149 => 52 | 222 => 70 | n => n, fun | 9 => 9 | 5 => 5 | 3 => 3 | 4 => 4 | n => n, fun | n => n⟩
theorem Tryd.l149 : Go.Proofs.Lays.n149 Tryd.prog Tryd.l149_ren := {
  mixed := by kernel_rfl
  f149 := Tryd.func52.trans (congrArg some (by kernel_rfl))
  f222 := Tryd.func70.trans (congrArg some (by kernel_rfl))
  t3 := Tryd.underlying3
  a3 := Tryd.isAgg3
  z3 := Tryd.sizeOf3
  v3 := Tryd.zeroValue3
  t4 := Tryd.underlying4
  a4 := Tryd.isAgg4
  z4 := Tryd.sizeOf4
  v4 := Tryd.zeroValue4
  t5 := Tryd.underlying5
  a5 := Tryd.isAgg5
  z5 := Tryd.sizeOf5
  v5 := Tryd.zeroValue5
  t9 := Tryd.underlying9
  a9 := Tryd.isAgg9
  z9 := Tryd.sizeOf9
  v9 := Tryd.zeroValue9 }
def Tryd.l160_ren : Go.Shelf.Ren := ⟨fun | 160 => 34 | 232 => 58 | 231 => 57 | 227 => 59 | 234 => 61 | 233 => 60 | 236 => 63 | 235 => 62 | 228 => 74 | 271 => 77 | 151 => 76 | 197 => 75 | 120 => 85 | 152 => 84 | 260 => 83 | 137 => 53 | 119 => 91 | 224 => 87 | 225 => 86 | 217 => 71 | 266 => 79 | n => n, fun | 9 => 9 | 4 => 4 | 3 => 3 | 5 => 5 | 117 => 50 | 116 => 49 | 0 => 0 | 124 => 53 | 21 => 21 | 105 => 59 | 46 => 73 | 119 => 75 | 139 => 78 | 138 => 77 | n => n, fun | 3 => 1 | 4 => 2 | n => n⟩
theorem Tryd.l160 : Go.Proofs.Lays.n160 Tryd.prog Tryd.l160_ren := {
  mixed := by kernel_rfl
  f119 := Tryd.func91.trans (congrArg some (by kernel_rfl))
  f120 := Tryd.func85.trans (congrArg some (by kernel_rfl))
  f137 := Tryd.func53.trans (congrArg some (by kernel_rfl))
  f151 := Tryd.func76.trans (congrArg some (by kernel_rfl))
  f152 := Tryd.func84.trans (congrArg some (by kernel_rfl))
  f160 := Tryd.func34.trans (congrArg some (by kernel_rfl))
  f197 := Tryd.func75.trans (congrArg some (by kernel_rfl))
  f217 := Tryd.func71.trans (congrArg some (by kernel_rfl))
  f224 := Tryd.func87.trans (congrArg some (by kernel_rfl))
  f225 := Tryd.func86.trans (congrArg some (by kernel_rfl))
  f227 := Tryd.func59.trans (congrArg some (by kernel_rfl))
  f228 := Tryd.func74.trans (congrArg some (by kernel_rfl))
  f231 := Tryd.func57.trans (congrArg some (by kernel_rfl))
  f232 := Tryd.func58.trans (congrArg some (by kernel_rfl))
  f233 := Tryd.func60.trans (congrArg some (by kernel_rfl))
  f234 := Tryd.func61.trans (congrArg some (by kernel_rfl))
  f235 := Tryd.func62.trans (congrArg some (by kernel_rfl))
  f236 := Tryd.func63.trans (congrArg some (by kernel_rfl))
  f260 := Tryd.func83.trans (congrArg some (by kernel_rfl))
  f266 := Tryd.func79.trans (congrArg some (by kernel_rfl))
  f271 := Tryd.func77.trans (congrArg some (by kernel_rfl))
  t0 := Tryd.underlying0
  a0 := Tryd.isAgg0
  z0 := Tryd.sizeOf0
  v0 := Tryd.zeroValue0
  t3 := Tryd.underlying3
  a3 := Tryd.isAgg3
  z3 := Tryd.sizeOf3
  v3 := Tryd.zeroValue3
  t4 := Tryd.underlying4
  a4 := Tryd.isAgg4
  z4 := Tryd.sizeOf4
  v4 := Tryd.zeroValue4
  t5 := Tryd.underlying5
  a5 := Tryd.isAgg5
  z5 := Tryd.sizeOf5
  v5 := Tryd.zeroValue5
  t9 := Tryd.underlying9
  a9 := Tryd.isAgg9
  z9 := Tryd.sizeOf9
  v9 := Tryd.zeroValue9
  t21 := Tryd.underlying21
  a21 := Tryd.isAgg21
  z21 := Tryd.sizeOf21
  v21 := Tryd.zeroValue21
  t46 := Tryd.underlying73
  a46 := Tryd.isAgg73
  z46 := Tryd.sizeOf73
  v46 := Tryd.zeroValue73
  t105 := Tryd.underlying59
  a105 := Tryd.isAgg59
  z105 := Tryd.sizeOf59
  v105 := Tryd.zeroValue59
  t116 := Tryd.underlying49
  a116 := Tryd.isAgg49
  z116 := Tryd.sizeOf49
  t117 := Tryd.underlying50
  a117 := Tryd.isAgg50
  z117 := Tryd.sizeOf50
  v117 := Tryd.zeroValue50
  t119 := Tryd.underlying75
  a119 := Tryd.isAgg75
  z119 := Tryd.sizeOf75
  t124 := Tryd.underlying53
  a124 := Tryd.isAgg53
  z124 := Tryd.sizeOf53
  v124 := Tryd.zeroValue53
  t138 := Tryd.underlying77
  a138 := Tryd.isAgg77
  z138 := Tryd.sizeOf77
  v138 := Tryd.zeroValue77
  t139 := Tryd.underlying78
  a139 := Tryd.isAgg78
  z139 := Tryd.sizeOf78
  v139 := Tryd.zeroValue78
  g3 := by kernel_rfl
  g4 := by kernel_rfl }
def Tryd.l138_ren : Go.Shelf.Ren := ⟨fun | 138 => 38 | 195 => 65 | 218 => 66 | 143 => 67 | 219 => 78 | 217 => 71 | 225 => 86 | 224 => 87 | 267 => 88 | 266 => 79 | 314 => 92 | n => n, fun | 9 => 9 | 3 => 3 | 4 => 4 | 5 => 5 | 0 => 0 | 46 => 73 | 146 => 81 | 51 => 80 | n => n, fun | 1 => 0 | n => n⟩
theorem Tryd.l138 : Go.Proofs.Lays.n138 Tryd.prog Tryd.l138_ren := {
  mixed := by kernel_rfl
  f138 := Tryd.func38.trans (congrArg some (by kernel_rfl))
  f143 := Tryd.func67.trans (congrArg some (by kernel_rfl))
  f195 := Tryd.func65.trans (congrArg some (by kernel_rfl))
  f217 := Tryd.func71.trans (congrArg some (by kernel_rfl))
  f218 := Tryd.func66.trans (congrArg some (by kernel_rfl))
  f219 := Tryd.func78.trans (congrArg some (by kernel_rfl))
  f224 := Tryd.func87.trans (congrArg some (by kernel_rfl))
  f225 := Tryd.func86.trans (congrArg some (by kernel_rfl))
  f266 := Tryd.func79.trans (congrArg some (by kernel_rfl))
  f267 := Tryd.func88.trans (congrArg some (by kernel_rfl))
  f314 := Tryd.func92.trans (congrArg some (by kernel_rfl))
  t0 := Tryd.underlying0
  a0 := Tryd.isAgg0
  z0 := Tryd.sizeOf0
  v0 := Tryd.zeroValue0
  t3 := Tryd.underlying3
  a3 := Tryd.isAgg3
  z3 := Tryd.sizeOf3
  v3 := Tryd.zeroValue3
  t4 := Tryd.underlying4
  a4 := Tryd.isAgg4
  z4 := Tryd.sizeOf4
  v4 := Tryd.zeroValue4
  t5 := Tryd.underlying5
  a5 := Tryd.isAgg5
  z5 := Tryd.sizeOf5
  v5 := Tryd.zeroValue5
  t9 := Tryd.underlying9
  a9 := Tryd.isAgg9
  z9 := Tryd.sizeOf9
  v9 := Tryd.zeroValue9
  t46 := Tryd.underlying73
  a46 := Tryd.isAgg73
  z46 := Tryd.sizeOf73
  v46 := Tryd.zeroValue73
  t51 := Tryd.underlying80
  a51 := Tryd.isAgg80
  z51 := Tryd.sizeOf80
  v51 := Tryd.zeroValue80
  t146 := Tryd.underlying81
  a146 := Tryd.isAgg81
  z146 := Tryd.sizeOf81
  v146 := Tryd.zeroValue81
  g1 := by kernel_rfl }
def Tryd.l144_ren : Go.Shelf.Ren := ⟨fun | 144 => 72 | 143 => 67 | 219 => 78 | 217 => 71 | 225 => 86 | 224 => 87 | 267 => 88 | 266 => 79 | 314 => 92 | n => n, fun | 9 => 9 | 4 => 4 | 3 => 3 | 5 => 5 | 46 => 73 | 146 => 81 | 51 => 80 | n => n, fun | 1 => 0 | n => n⟩
theorem Tryd.l144 : Go.Proofs.Lays.n144 Tryd.prog Tryd.l144_ren := {
  mixed := by kernel_rfl
  f143 := Tryd.func67.trans (congrArg some (by kernel_rfl))
  f144 := Tryd.func72.trans (congrArg some (by kernel_rfl))
  f217 := Tryd.func71.trans (congrArg some (by kernel_rfl))
  f219 := Tryd.func78.trans (congrArg some (by kernel_rfl))
  f224 := Tryd.func87.trans (congrArg some (by kernel_rfl))
  f225 := Tryd.func86.trans (congrArg some (by kernel_rfl))
  f266 := Tryd.func79.trans (congrArg some (by kernel_rfl))
  f267 := Tryd.func88.trans (congrArg some (by kernel_rfl))
  f314 := Tryd.func92.trans (congrArg some (by kernel_rfl))
  t3 := Tryd.underlying3
  a3 := Tryd.isAgg3
  z3 := Tryd.sizeOf3
  v3 := Tryd.zeroValue3
  t4 := Tryd.underlying4
  a4 := Tryd.isAgg4
  z4 := Tryd.sizeOf4
  v4 := Tryd.zeroValue4
  t5 := Tryd.underlying5
  a5 := Tryd.isAgg5
  z5 := Tryd.sizeOf5
  v5 := Tryd.zeroValue5
  t9 := Tryd.underlying9
  a9 := Tryd.isAgg9
  z9 := Tryd.sizeOf9
  v9 := Tryd.zeroValue9
  t46 := Tryd.underlying73
  a46 := Tryd.isAgg73
  z46 := Tryd.sizeOf73
  v46 := Tryd.zeroValue73
  t51 := Tryd.underlying80
  a51 := Tryd.isAgg80
  z51 := Tryd.sizeOf80
  v51 := Tryd.zeroValue80
  t146 := Tryd.underlying81
  a146 := Tryd.isAgg81
  z146 := Tryd.sizeOf81
  v146 := Tryd.zeroValue81
  g1 := by kernel_rfl }
end Go.Proofs

/- What the library's string functions compute: a byte's first and last place, its number, and a cut at both ends. -/
namespace Go.Proofs.YtgdpeabbmbclbaaDoor.Pr
open Go.RowKit Go.Proofs.YtgdpeabbmbclbaaDoorW.PrintWords Go.Proofs.YtgdpeabbmbclbaaDoorW.PrintLast Go.Proofs.YtgdpeabbmbclbaaDoorW.PrintMore
set_option linter.unusedVariables false
set_option linter.unusedSimpArgs false

def strings_IndexByte.f (a0 : ByteArray) (a1 : Int) : Option (Int) := some (Lib.indexByte a0.data.toList a1.toNat.toUInt8)
theorem strings_IndexByte.calls (a0 : ByteArray) (a1 : Int) (r : Int) (w : World) (h : strings_IndexByte.f a0 a1 = some r) :
    Calls Tryd.prog 53 #[.string a0, .int .u8 a1] w fun e w' => e = .returned (.int .i64 r) ∧ Drawn0 w w' := by
  obtain rfl := Option.some.inj h
  exact (Any.strings_IndexByte Tryd.l137 a0 a1 w).mono fun e w' ⟨he, hw⟩ => ⟨he, hw ▸ Drawn0.refl _⟩
def strings_LastIndexByte.f (a0 : ByteArray) (a1 : Int) : Option (Int) := if a0.size ≤ 1048576 then some (Lib.lastIndexByte a0 a1) else none
theorem strings_LastIndexByte.calls (a0 : ByteArray) (a1 : Int) (r : Int) (w : World) (h : strings_LastIndexByte.f a0 a1 = some r) :
    Calls Tryd.prog 52 #[.string a0, .int .u8 a1] w fun e w' => e = .returned (.int .i64 r) ∧ Drawn0 w w' := by
  unfold strings_LastIndexByte.f at h
  by_cases hs : a0.size ≤ 1048576
  · rw [if_pos hs] at h
    obtain rfl := Option.some.inj h
    exact (Any.strings_LastIndexByte Tryd.l149 a0 a1 (by omega) w).mono fun e w' ⟨he, hw⟩ => ⟨he, hw ▸ Drawn0.refl _⟩
  · rw [if_neg hs] at h; cases h
/-- A text of one byte. -/
theorem one_byte {s : ByteArray} (h : s.data.toList.length = 1) : s = ⟨#[s.data.toList.headD 0]⟩ := by
  obtain ⟨⟨l⟩⟩ := s
  match l, h with
  | [c], _ => rfl
def strings_Count.f (a0 : ByteArray) (a1 : ByteArray) : Option (Int) := if a1.data.toList.length = 1 then some ((a0.data.toList.count (a1.data.toList.headD 0) : Nat) : Int) else none
theorem strings_Count.calls (a0 : ByteArray) (a1 : ByteArray) (r : Int) (w : World) (h : strings_Count.f a0 a1 = some r) :
    Calls Tryd.prog 38 #[.string a0, .string a1] w fun e w' => e = .returned (.int .i64 r) ∧ Drawn0 w w' := by
  unfold strings_Count.f at h
  by_cases hs : a1.data.toList.length = 1
  · rw [if_pos hs] at h
    obtain rfl := Option.some.inj h
    have e := one_byte hs
    generalize a1.data.toList.headD 0 = c at e ⊢
    subst e
    exact (Any.strings_Count_one Tryd.l138 a0 c w).mono fun e w' ⟨he, hw⟩ => ⟨he, hw ▸ Drawn0.refl _⟩
  · rw [if_neg hs] at h; cases h
def strings_Contains.f (a0 : ByteArray) (a1 : ByteArray) : Option (Bool) := if a1.data.toList.length = 1 then some (decide (0 ≤ Lib.indexByte a0.data.toList (a1.data.toList.headD 0))) else none
theorem strings_Contains.calls (a0 : ByteArray) (a1 : ByteArray) (r : Bool) (w : World) (h : strings_Contains.f a0 a1 = some r) :
    Calls Tryd.prog 72 #[.string a0, .string a1] w fun e w' => e = .returned (.bool r) ∧ Drawn0 w w' := by
  unfold strings_Contains.f at h
  by_cases hs : a1.data.toList.length = 1
  · rw [if_pos hs] at h
    obtain rfl := Option.some.inj h
    have e := one_byte hs
    generalize a1.data.toList.headD 0 = c at e ⊢
    subst e
    exact (Any.strings_Contains_one Tryd.l144 a0 c w).mono fun e w' ⟨he, hw⟩ => ⟨he, hw ▸ Drawn0.refl _⟩
  · rw [if_neg hs] at h; cases h
end Go.Proofs.YtgdpeabbmbclbaaDoor.Pr

/- What the library's Trim computes at the first eight letters. -/
namespace Go.Proofs.YtgdpeabbmbclbaaDoor.Pr
open Go.RowKit Go.Proofs.YtgdpeabbmbclbaaDoorW.PrintWords Go.Proofs.YtgdpeabbmbclbaaDoorW.PrintLast Go.Proofs.YtgdpeabbmbclbaaDoorW.PrintMore
set_option linter.unusedVariables false
set_option linter.unusedSimpArgs false

def strings_Trim.f (a0 : ByteArray) (a1 : ByteArray) : Option (ByteArray) := if a0.size ≤ 1048576 ∧ a1 = ⟨#[97, 98, 99, 100, 101, 102, 103, 104]⟩ then some ⟨(Lib.trimS a0.data.toList [97, 98, 99, 100, 101, 102, 103, 104]).toArray⟩ else none
theorem strings_Trim.calls (a0 : ByteArray) (a1 : ByteArray) (r : ByteArray) (w : World) (h : strings_Trim.f a0 a1 = some r) :
    Calls Tryd.prog 34 #[.string a0, .string a1] w fun e w' => e = .returned (.string r) ∧ Below w.heap.size w w' := by
  unfold strings_Trim.f at h
  by_cases hs : a0.size ≤ 1048576 ∧ a1 = ⟨#[97, 98, 99, 100, 101, 102, 103, 104]⟩
  · rw [if_pos hs] at h
    obtain rfl := Option.some.inj h
    obtain ⟨h1, rfl⟩ := hs
    exact Any.strings_Trim_laid Tryd.l160 (by kernel_rfl) a0 _ w (by omega) (by decide) (ascii_of_all (by decide))
  · rw [if_neg hs] at h; cases h
end Go.Proofs.YtgdpeabbmbclbaaDoor.Pr

-- Written by a program for this claim.
namespace Go.Proofs.YtgdpeabbmbclbaaDoor.Pr
open Go.RowKit Go.Proofs.YtgdpeabbmbclbaaDoorW.PrintWords Go.Proofs.YtgdpeabbmbclbaaDoorW.PrintLast Go.Proofs.YtgdpeabbmbclbaaDoorW.PrintMore
attribute [local go_sem] max2_int min2_int max_two min_two max_three min_three max_four min_four   -- for this text's walks alone
set_option linter.unusedVariables false
set_option linter.unusedSimpArgs false

/-! ### impl_named: function 35 -/
def impl_named.l0 : Nat → ByteArray → ByteArray → List Int → Int → Int → Option (ByteArray)
  | 0, _, _, _, _, _ => none
  | k + 1, x0, x3, x4, x9, x10 => if x10 < x9 then (if 0 ≤ x10 then (if x10 < (x0.size : Int) then ((strings_IndexByte.f x3 (bt x0 x10)).bind fun t106 => (if t106 < 0 then (if x10 ≤ (wrap64 (x10 + 1)) then (if (wrap64 (x10 + 1)) ≤ (x0.size : Int) then (if x3.size + (x0.extract (x10 : Int).toNat ((wrap64 (x10 + 1)) : Int).toNat).size ≤ 9223372036854775807 then (if x4.length < 140737488355328 then (impl_named.l0 k x0 (x3 ++ (x0.extract (x10 : Int).toNat ((wrap64 (x10 + 1)) : Int).toNat)) (x4 ++ [(97 + ((x3.size : Int))) % 256]) x9 (wrap64 (x10 + 1))) else (none)) else (none)) else (none)) else (none)) else (if x4.length < 140737488355328 then (impl_named.l0 k x0 x3 (x4 ++ [(97 + (t106)) % 256]) x9 (wrap64 (x10 + 1))) else (none)))) else (none)) else (none)) else (some (strOfNums x4))
def impl_named.f (k : Nat) (a0 : ByteArray) : Option (ByteArray) := impl_named.l0 k a0 (⟨#[]⟩ : ByteArray) (([] : List Int)) (a0.size : Int) 0
theorem impl_named.mono_l : ∀ k, (∀ y0 y1 y2 y3 y4, LeO (impl_named.l0 k y0 y1 y2 y3 y4) (impl_named.l0 (k + 1) y0 y1 y2 y3 y4))
  | 0 => fun _ _ _ _ _ r h => by simp [impl_named.l0] at h
  | k + 1 => by
    have ih0 := impl_named.mono_l k
    · intro y0 y1 y2 y3 y4
      unfold impl_named.l0
      repeat' first
      | (with_reducible exact ih0 _ _ _ _ _)
      | (with_reducible exact LeO.refl _)
      | (with_reducible exact LeO.none _)
      | (with_reducible refine LeO.ite ?_ ?_)
      | (with_reducible refine LeO.bind ?_ (fun _ => ?_))
      | exact ih0 _ _ _ _ _
      | exact LeO.none _
      | refine LeO.ite ?_ ?_
      | refine LeO.bind ?_ (fun _ => ?_)
theorem impl_named.mono : ∀ a0 k, LeO (impl_named.f k a0) (impl_named.f (k + 1) a0) := by
  intro a0 k
  have ih0 := impl_named.mono_l k
  unfold impl_named.f
  repeat' first
      | (with_reducible exact ih0 _ _ _ _ _)
      | (with_reducible exact LeO.refl _)
      | (with_reducible exact LeO.none _)
      | (with_reducible refine LeO.ite ?_ ?_)
      | (with_reducible refine LeO.bind ?_ (fun _ => ?_))
      | exact ih0 _ _ _ _ _
      | exact LeO.none _
      | refine LeO.ite ?_ ?_
      | refine LeO.bind ?_ (fun _ => ?_)
set_option maxHeartbeats 8000000 in
set_option maxRecDepth 100000 in
theorem impl_named.calls (k : Nat) (a0 : ByteArray) (r : ByteArray) (w : World) (h : impl_named.f k a0 = some r) :
    Calls Tryd.prog 35 #[.string a0] w fun e w' => e = .returned (.string r) ∧ Below w.heap.size w w' := by
  have HB := Aside0.mk (Below.refl w.heap.size w)
  have H : (impl_named.l0 k a0 (⟨#[]⟩ : ByteArray) (([] : List Int)) (a0.size : Int) 0) = some r := h
  clear h
  obtain ⟨y103, hy103⟩ : ∃ y_ : List Int, y_ = (([] : List Int)) := ⟨_, rfl⟩
  replace H : (impl_named.l0 k a0 (⟨#[]⟩ : ByteArray) y103 (a0.size : Int) 0) = some r := by first | (rw [hy103]; with_reducible exact H) | (have H2_ := (Option.bind_some _ _).symm.trans H; rw [hy103]; with_reducible exact H2_) | (have H2_ := (Option.bind_some _ _).symm.trans H; with_reducible exact H2_) | with_reducible exact H | (rw [hy103]; exact H) | exact H
  have Ny103 := Aside0.mk hy103
  clear hy103
  have H' := Aside0.mk H
  clear H
  go_enter Tryd.func35, Tryd.ntmps35
  go_wp2_with (first | ((with_reducible refine gate_dst (N := 7) rfl ?_); refine Kd.R_lit (Kd.int .u8) _ 5 ?hg (N := 7) ?hd (xs := ([] : List Int)) (inner := []) (ok := fun _ => True) (okp := fun _ => True) ?hr ?hp (fun _ hk => hk) trivial (Below.refl _ _) (Nat.le_refl _) (by simp) ?_; (case hd => rfl); (case hg => rfl); (case hr => first | (go_simp; done) | (go_simp; rfl)); (case hp => exact (Reps.none _ _)); intro v104 w2 ho3 hb hg_ hnew_; clear hg_ hnew_; (first | rw [← Ny103.out] at ho3 | (simp only [Int.reduceToNat] at ho3; rw [← Ny103.out] at ho3)); have n0_ := Aside0.mk (Kd.R_lower ho3 (below_size (by repeat (first | (with_reducible first | exact HB.out | apply below_alloc | apply pw_below_drewN | apply below_drew1) | exact HB.out)))); have n1_ := Aside0.mk (below_step (by repeat (first | (with_reducible first | exact HB.out | apply below_alloc | apply pw_below_drewN | apply below_drew1) | exact HB.out)) hb); clear HB; have HO105 := n0_; have HB := n1_; clear n0_ n1_; clear hb ho3))
  go_loopg [3, 4, 10] k (fun kq v3 v4 v10 w' => ∃ (x3_1 : ByteArray) (x4_1 : List Int) (x10_1 : Int), v3 = .string x3_1 ∧ v10 = .int .i64 x10_1 ∧ Aside0 (impl_named.l0 kq a0 x3_1 x4_1 (a0.size : Int) x10_1 = some r) ∧ Aside0 (kq ≤ k) ∧ Aside0 (Kd.R (Kd.int .u8) 5 w' w.heap.size (fun _ => True) v4 x4_1) ∧ Aside0 (Below w.heap.size w w'))
  case atStart => exact ⟨((⟨#[]⟩ : ByteArray)), (y103), (0), (by first | rfl | (simp; done) | (simp [*]; done)), (by first | rfl | (simp; done) | (simp [*]; done)), H', ⟨Nat.le_refl _⟩, ⟨by (with_reducible repeat (first | apply Kd.R_alloc | apply Kd.R_drewN | apply Kd.R_drew)); exact HO105.out⟩, ⟨by repeat (first | (with_reducible first | exact HB.out | apply below_alloc | apply pw_below_drewN | apply below_drew1) | exact HB.out)⟩⟩
  case round =>
    clear H'
    try clear p2
    try clear c3
    obtain ⟨x3_1, x4_1, x10_1, rfl, rfl, HA, HK1, HO_4, HB⟩ := hrel
    cases gk with
    | zero => exact absurd HA.out (by simp [impl_named.l0])
    | succ k1 =>
      have H := HA.out
      clear HA
      simp only [impl_named.l0] at H
      by_cases c4 : x10_1 < (a0.size : Int)
      · rw [if_pos c4] at H
        have c4b0 : decide (x10_1 < (a0.size : Int)) = true := decide_eq_true c4
        clear c4
        by_cases c5 : 0 ≤ x10_1
        · rw [if_pos c5] at H
          have c5b0 : decide (0 ≤ x10_1) = true := decide_eq_true c5
          clear c5
          by_cases c6 : x10_1 < (a0.size : Int)
          · rw [if_pos c6] at H
            have c6b0 : decide (x10_1 < (a0.size : Int)) = true := decide_eq_true c6
            clear c6
            replace H := Option.bind_eq_some_iff.mp H
            obtain ⟨t106, A80, H⟩ := H
            replace H : (if t106 < 0 then (if x10_1 ≤ (wrap64 (x10_1 + 1)) then (if (wrap64 (x10_1 + 1)) ≤ (a0.size : Int) then (if x3_1.size + (a0.extract (x10_1 : Int).toNat ((wrap64 (x10_1 + 1)) : Int).toNat).size ≤ 9223372036854775807 then (if x4_1.length < 140737488355328 then (impl_named.l0 k1 a0 (x3_1 ++ (a0.extract (x10_1 : Int).toNat ((wrap64 (x10_1 + 1)) : Int).toNat)) (x4_1 ++ [(97 + ((x3_1.size : Int))) % 256]) (a0.size : Int) (wrap64 (x10_1 + 1))) else (none)) else (none)) else (none)) else (none)) else (if x4_1.length < 140737488355328 then (impl_named.l0 k1 a0 x3_1 (x4_1 ++ [(97 + (t106)) % 256]) (a0.size : Int) (wrap64 (x10_1 + 1))) else (none))) = some r := H
            have A8 := Aside0.mk A80
            clear A80
            by_cases c9 : t106 < 0
            · rw [if_pos c9] at H
              have c9b0 : decide (t106 < 0) = true := decide_eq_true c9
              clear c9
              have c10b0 := eq_true (of_decide_eq_true (by first | (with_reducible assumption) | assumption) : 0 ≤ x10_1)
              by_cases c11 : x10_1 ≤ (wrap64 (x10_1 + 1))
              · rw [if_pos c11] at H
                have c11b0 := eq_true c11
                have c11b1 : decide (x10_1 ≤ (wrap64 (x10_1 + 1))) = true := decide_eq_true c11
                by_cases c12 : (wrap64 (x10_1 + 1)) ≤ (a0.size : Int)
                · rw [if_pos c12] at H
                  have c12b0 := eq_true c12
                  have c12b1 : decide ((wrap64 (x10_1 + 1)) ≤ (a0.size : Int)) = true := decide_eq_true c12
                  by_cases c13 : x3_1.size + (a0.extract (x10_1 : Int).toNat ((wrap64 (x10_1 + 1)) : Int).toNat).size ≤ 9223372036854775807
                  · rw [if_pos c13] at H
                    have c13b0 := eq_true c13
                    have c13b1 : decide (x3_1.size + (a0.extract (x10_1 : Int).toNat ((wrap64 (x10_1 + 1)) : Int).toNat).size ≤ 9223372036854775807) = true := decide_eq_true c13
                    try have c13b2 : (9223372036854775807 < x3_1.size + (a0.extract (x10_1 : Int).toNat ((wrap64 (x10_1 + 1)) : Int).toNat).size) = False := eq_false (Nat.not_lt.2 c13)
                    by_cases c14 : x4_1.length < 140737488355328
                    · rw [if_pos c14] at H
                      have LMc14 := Aside0.mk c14
                      clear c14
                      obtain ⟨y107, hy107⟩ : ∃ y_ : List Int, y_ = (x4_1 ++ [(97 + ((x3_1.size : Int))) % 256]) := ⟨_, rfl⟩
                      replace H : (impl_named.l0 k1 a0 (x3_1 ++ (a0.extract (x10_1 : Int).toNat ((wrap64 (x10_1 + 1)) : Int).toNat)) y107 (a0.size : Int) (wrap64 (x10_1 + 1))) = some r := by first | (rw [hy107]; with_reducible exact H) | (have H2_ := (Option.bind_some _ _).symm.trans H; rw [hy107]; with_reducible exact H2_) | (have H2_ := (Option.bind_some _ _).symm.trans H; with_reducible exact H2_) | with_reducible exact H | (rw [hy107]; exact H) | exact H
                      have Ny107 := Aside0.mk hy107
                      clear hy107
                      have H' := Aside0.mk H
                      clear H
                      have p7 : 0 ≤ (x10_1 : Int) := of_decide_eq_true (by first | (with_reducible assumption) | assumption)
                      have q7 : x10_1 < (a0.size : Int) := of_decide_eq_true (by first | (with_reducible assumption) | assumption)
                      have hx7 := bt_at a0 x10_1
                      replace p7 := eq_true p7
                      replace q7 := eq_true q7
                      go_wp2_with (first | ((with_reducible refine gate_callee (f := 53) rfl ?_); refine goesL_ (some 17) rfl rfl Tryd.func53 (by kernel_rfl) rfl #[.string x3_1, .int .u8 (bt a0 x10_1)] rfl (by (try simp only [List.map_toArray, List.map_cons, List.map_nil]); first | done | rfl | (simp only [List.length_drop, List.length_take]; rfl)) ?_; (with_reducible refine (strings_IndexByte.calls x3_1 (bt a0 x10_1) t106 _ A8.out).mono ?_); rintro e w' ⟨rfl, ⟨nd, rfl⟩⟩; refine ⟨_, rfl, ?_⟩) | ((with_reducible refine gate_builtin (b := .append) (xs := #[.tmp 29, .tmp 33]) rfl ?_); at_builtin; refine Kd.R_append (Kd.int .u8) (w0 := w) w.heap.size rfl (.tmp 29) (.tmp 33) 37 5 (.int .u8 0) 1 rfl Tryd.underlying37 info5 rfl (by decide) (by omega) u4 x4_1 ((97 + ((x3_1.size : Int))) % 256) [.int .u8 ((97 + ((x3_1.size : Int))) % 256)] (fun _ => True) (fun _ => False) rfl rfl ?aP (fun _ hk => hk.elim) ?aF ?aO ?aB ?aS ?aL ?_; (case aP => exact rfl); (case aB => exact (by repeat (first | (with_reducible first | exact HB.out | apply below_alloc | apply pw_below_drewN | apply below_drew1) | exact HB.out))); (case aF => exact (fun _ _ => trivial)); (case aO => exact (by (with_reducible repeat (first | apply Kd.R_alloc | apply Kd.R_drewN | apply Kd.R_drew)); exact HO_4.out)); (case aS => exact (below_size (by repeat (first | (with_reducible first | exact HB.out | apply below_alloc | apply pw_below_drewN | apply below_drew1) | exact HB.out)))); (case aL => have := LMc14.out; omega); intro v108 w15 ho hb hg hat; rw [← Ny107.out] at ho; have n0_ := Aside0.mk (hb); have n1_ := Aside0.mk (ho); clear HB; clear HO_4; have HB := n0_; have HO109 := n1_; clear n0_ n1_; clear ho hb hg hat))
                      go_roundg k1
                      case measure => have := HK1.out; omega
                      case rel => exact ⟨(x3_1 ++ (a0.extract (x10_1 : Int).toNat ((wrap64 (x10_1 + 1)) : Int).toNat)), (y107), (wrap64 (x10_1 + 1)), (by first | rfl | (simp; done) | (simp [*]; done)), (by first | rfl | (simp; done) | (simp [*]; done)), H', ⟨by have := HK1.out; omega⟩, ⟨by (with_reducible repeat (first | apply Kd.R_alloc | apply Kd.R_drewN | apply Kd.R_drew)); exact HO109.out⟩, ⟨by repeat (first | (with_reducible first | exact HB.out | apply below_alloc | apply pw_below_drewN | apply below_drew1) | exact HB.out)⟩⟩
                    · rw [if_neg c14] at H
                      exact absurd H (by simp)
                  · rw [if_neg c13] at H
                    exact absurd H (by simp)
                · rw [if_neg c12] at H
                  exact absurd H (by simp)
              · rw [if_neg c11] at H
                exact absurd H (by simp)
            · rw [if_neg c9] at H
              have c9b0 : decide (t106 < 0) = false := decide_eq_false c9
              clear c9
              by_cases c16 : x4_1.length < 140737488355328
              · rw [if_pos c16] at H
                have LMc16 := Aside0.mk c16
                clear c16
                obtain ⟨y110, hy110⟩ : ∃ y_ : List Int, y_ = (x4_1 ++ [(97 + (t106)) % 256]) := ⟨_, rfl⟩
                replace H : (impl_named.l0 k1 a0 x3_1 y110 (a0.size : Int) (wrap64 (x10_1 + 1))) = some r := by first | (rw [hy110]; with_reducible exact H) | (have H2_ := (Option.bind_some _ _).symm.trans H; rw [hy110]; with_reducible exact H2_) | (have H2_ := (Option.bind_some _ _).symm.trans H; with_reducible exact H2_) | with_reducible exact H | (rw [hy110]; exact H) | exact H
                have Ny110 := Aside0.mk hy110
                clear hy110
                have H' := Aside0.mk H
                clear H
                have p7 : 0 ≤ (x10_1 : Int) := of_decide_eq_true (by first | (with_reducible assumption) | assumption)
                have q7 : x10_1 < (a0.size : Int) := of_decide_eq_true (by first | (with_reducible assumption) | assumption)
                have hx7 := bt_at a0 x10_1
                replace p7 := eq_true p7
                replace q7 := eq_true q7
                go_wp2_with (first | ((with_reducible refine gate_callee (f := 53) rfl ?_); refine goesL_ (some 17) rfl rfl Tryd.func53 (by kernel_rfl) rfl #[.string x3_1, .int .u8 (bt a0 x10_1)] rfl (by (try simp only [List.map_toArray, List.map_cons, List.map_nil]); first | done | rfl | (simp only [List.length_drop, List.length_take]; rfl)) ?_; (with_reducible refine (strings_IndexByte.calls x3_1 (bt a0 x10_1) t106 _ A8.out).mono ?_); rintro e w' ⟨rfl, ⟨nd, rfl⟩⟩; refine ⟨_, rfl, ?_⟩) | ((with_reducible refine gate_builtin (b := .append) (xs := #[.tmp 29, .tmp 33]) rfl ?_); at_builtin; refine Kd.R_append (Kd.int .u8) (w0 := w) w.heap.size rfl (.tmp 29) (.tmp 33) 37 5 (.int .u8 0) 1 rfl Tryd.underlying37 info5 rfl (by decide) (by omega) u4 x4_1 ((97 + (t106)) % 256) [.int .u8 ((97 + (t106)) % 256)] (fun _ => True) (fun _ => False) rfl rfl ?aP (fun _ hk => hk.elim) ?aF ?aO ?aB ?aS ?aL ?_; (case aP => exact rfl); (case aB => exact (by repeat (first | (with_reducible first | exact HB.out | apply below_alloc | apply pw_below_drewN | apply below_drew1) | exact HB.out))); (case aF => exact (fun _ _ => trivial)); (case aO => exact (by (with_reducible repeat (first | apply Kd.R_alloc | apply Kd.R_drewN | apply Kd.R_drew)); exact HO_4.out)); (case aS => exact (below_size (by repeat (first | (with_reducible first | exact HB.out | apply below_alloc | apply pw_below_drewN | apply below_drew1) | exact HB.out)))); (case aL => have := LMc16.out; omega); intro v111 w17 ho hb hg hat; rw [← Ny110.out] at ho; have n0_ := Aside0.mk (hb); have n1_ := Aside0.mk (ho); clear HB; clear HO_4; have HB := n0_; have HO112 := n1_; clear n0_ n1_; clear ho hb hg hat))
                go_roundg k1
                case measure => have := HK1.out; omega
                case rel => exact ⟨(x3_1), (y110), (wrap64 (x10_1 + 1)), (by first | rfl | (simp; done) | (simp [*]; done)), (by first | rfl | (simp; done) | (simp [*]; done)), H', ⟨by have := HK1.out; omega⟩, ⟨by (with_reducible repeat (first | apply Kd.R_alloc | apply Kd.R_drewN | apply Kd.R_drew)); exact HO112.out⟩, ⟨by repeat (first | (with_reducible first | exact HB.out | apply below_alloc | apply pw_below_drewN | apply below_drew1) | exact HB.out)⟩⟩
              · rw [if_neg c16] at H
                exact absurd H (by simp)
          · rw [if_neg c6] at H
            exact absurd H (by simp)
        · rw [if_neg c5] at H
          exact absurd H (by simp)
      · rw [if_neg c4] at H
        have c4b0 : decide (x10_1 < (a0.size : Int)) = false := decide_eq_false c4
        clear c4
        obtain rfl := Option.some.inj H
        have hcv18 := own_string (P := Tryd.prog) Tryd.underlying37 Tryd.underlying5 Tryd.underlying9 (Kd.own_of_R HO_4.out)
        go_wp2
        go_ret
        exact ⟨by first | rfl | (simp [errW_none, errW_some] <;> rfl) | (simp [*, errW_none, errW_some] <;> rfl), by repeat (first | (with_reducible first | exact HB.out | apply below_alloc | apply pw_below_drewN | apply below_drew1) | exact HB.out)⟩

end Go.Proofs.YtgdpeabbmbclbaaDoor.Pr

/- A text's bytes as a row. -/
namespace Go.Proofs.YtgdpeabbmbclbaaDoor.Pr
open Go.RowKit Go.Proofs.YtgdpeabbmbclbaaDoorW.PrintWords Go.Proofs.YtgdpeabbmbclbaaDoorW.PrintLast Go.Proofs.YtgdpeabbmbclbaaDoorW.PrintMore
set_option linter.unusedVariables false
set_option linter.unusedSimpArgs false

theorem bytes_C (W : World) (e : Nat) (s : ByteArray) (hs : s.size ≤ 9223372036854775807) : Kd.C (Kd.int .u8) (Lib.bytesWorld W e s) (some ⟨W.heap.size, 0, none⟩) (bytesOf s).length (bytesOf s) := by
  have h := bytes_reads W e s hs
  refine ⟨rfl, by rw [bytesOf_length]; exact hs, fun hn => ?_⟩
  obtain ⟨ad, e1, hc⟩ := h.2.2 (by rwa [bytesOf_length] at hn)
  refine ⟨ad, e1, fun j p hj => ?_⟩
  obtain ⟨hjl, hp⟩ := List.getElem?_eq_some_iff.1 hj
  have h2 := hc j (by rwa [bytesOf_length] at hjl)
  rw [List.getD_eq_getElem?_getD, hj] at h2
  refine ⟨[.int .u8 p], rfl, rfl, fun i u hi => ?_⟩
  have hi2 : i = 0 := by have := (List.getElem?_eq_some_iff.1 hi).1; simp at this; exact this
  subst hi2
  obtain rfl : Value.int .u8 p = u := by simpa using hi
  show (Lib.bytesWorld W e s).cell? (ad.add (j * 1 + 0)) = _
  rw [show j * 1 + 0 = j by omega]
  exact h2
theorem cell_keep {W w' : World} {B : Nat} {v : Value} (hb : Below W.heap.size W w') (hB : B < W.heap.size) (h : W.cell? ⟨B, 0, none⟩ = some v) : w'.cell? ⟨B, 0, none⟩ = some v := (hb.cell (p := ⟨B, 0, none⟩) hB).trans h
theorem lt_keep {W w' : World} {B : Nat} (hb : Below W.heap.size W w') (hB : B < W.heap.size) : B < w'.heap.size := Nat.lt_of_lt_of_le hB hb.size
theorem below_keep {w W w' : World} (hb : Below W.heap.size W w') (h : Below w.heap.size w W) : Below w.heap.size w w' := h.trans (hb.mono h.size)
theorem toList_ne {s t : ByteArray} (h : s ≠ t) : s.toList ≠ t.toList := fun e => h (by
  rw [ByteArray.toList_eq, ByteArray.toList_eq] at e
  exact ByteArray.ext (Array.toList_inj.1 e))
end Go.Proofs.YtgdpeabbmbclbaaDoor.Pr

/- What the program's IsLoop computes. -/
namespace Go.Proofs.YtgdpeabbmbclbaaDoor.Pr
open Go.RowKit Go.Proofs.YtgdpeabbmbclbaaDoorW.PrintWords Go.Proofs.YtgdpeabbmbclbaaDoorW.PrintLast Go.Proofs.YtgdpeabbmbclbaaDoorW.PrintMore
set_option linter.unusedVariables false
set_option linter.unusedSimpArgs false

/-- A byte that a text has not just twice. -/
def missB (w : ByteArray) (c : Int) : Bool := (((w.data.toList.count c.toNat.toUInt8 : Nat) : Int) != 2)
theorem encode_small {c : Int} (h0 : 0 ≤ c) (h1 : c < 128) : Utf8.encode c = ⟨#[c.toNat.toUInt8]⟩ := by
  have h : ∀ n : Fin 128, Utf8.encode (n.val : Int) = ⟨#[n.val.toUInt8]⟩ := by decide +kernel
  obtain ⟨n, rfl⟩ := Int.eq_ofNat_of_zero_le h0
  exact h ⟨n, by omega⟩
theorem count_small (w : ByteArray) (c : Int) (h0 : 0 ≤ c) (h1 : c < 128) (W : World) :
    Calls Tryd.prog 38 #[.string w, .string (Utf8.encode c)] W fun e w' => e = .returned (.int .i64 ((w.data.toList.count c.toNat.toUInt8 : Nat) : Int)) ∧ Drawn0 W w' := by
  rw [encode_small h0 h1]
  exact strings_Count.calls w _ _ W rfl

set_option maxHeartbeats 2000000 in
theorem loop_pred (w0 : ByteArray) (B : Nat) (zs : List Int) (hz : ∀ x ∈ zs, 0 ≤ x ∧ x < 128) (w : World) (hB : B < w.heap.size) (hcell : w.cell? ⟨B, 0, none⟩ = some (.string w0)) :
    PredB 37 #[.pointer (some ⟨B, 0, none⟩)] encB (missB w0) zs w := fun W x hx hb => by
  have hc : W.cell? ⟨B, 0, none⟩ = some (.string w0) := (hb.cell (p := ⟨B, 0, none⟩) hB).trans hcell
  obtain ⟨h0, h1⟩ := hz x hx
  show Calls Tryd.prog 37 #[.int .u8 x, .pointer (some ⟨B, 0, none⟩)] W fun e w' => e = .returned (.bool (missB w0 x)) ∧ Below W.heap.size W w'
  unfold missB
  have HC := Aside0.mk (fun (W1 : World) => count_small w0 x h0 h1 W1)
  generalize ((w0.data.toList.count x.toNat.toUInt8 : Nat) : Int) = r at HC ⊢
  clear hcell hb hx hz
  go_enter Tryd.func37, Tryd.ntmps37
  go_wp2_with (go_at_call 38; refine (HC.out _).mono ?_; rintro e w' ⟨rfl, ⟨nd, rfl⟩⟩)
  go_ret
  exact ⟨by simp, pw_below_drewN (Below.refl _ _) _⟩

/-- What the program's IsLoop tells. -/
def impl_IsLoop.f (k : Nat) (a0 : ByteArray) : Option (Bool) :=
  if a0.size ≤ 16 then
    (if (Lib.trimS a0.data.toList [97, 98, 99, 100, 101, 102, 103, 104] = [] ∧ ∀ x ∈ bytesOf a0, 0 ≤ x ∧ x < 128) then ((impl_named.f k a0).bind fun t => if t = a0 then some (!((bytesOf a0).any (missB a0))) else some false)
    else if Lib.trimS a0.data.toList [97, 98, 99, 100, 101, 102, 103, 104] = [] then none else some false)
  else some false
theorem impl_IsLoop.mono : ∀ a0 k, LeO (impl_IsLoop.f k a0) (impl_IsLoop.f (k + 1) a0) := by
  intro a0 k
  unfold impl_IsLoop.f
  exact LeO.ite (LeO.ite (LeO.bind (impl_named.mono _ _) (fun _ => LeO.refl _)) (LeO.refl _)) (LeO.refl _)

set_option maxHeartbeats 4000000 in
theorem impl_IsLoop.calls (k : Nat) (a0 : ByteArray) (r : Bool) (w : World) (h : impl_IsLoop.f k a0 = some r) :
    Calls Tryd.prog 14 #[.string a0] w fun e w' => e = .returned (.bool r) ∧ Below w.heap.size w w' := by
  have hb0 : Below w.heap.size w (w.alloc (.cells #[.string a0] 9)) := below_alloc (Below.refl _ _) _
  have hs0 : w.heap.size < (w.alloc (.cells #[.string a0] 9)).heap.size := by simp
  have hx0 : (w.alloc (.cells #[.string a0] 9)).cell? ⟨w.heap.size, 0, none⟩ = some (.string a0) := by simp
  have eg : ∀ args w, (callFunc 37 args).run Tryd.prog w = .ok (.enter 37 args) w := enters_of Tryd.func37 (by kernel_rfl) rfl
  unfold impl_IsLoop.f at h
  by_cases hl : a0.size ≤ 16
  · rw [if_pos hl] at h
    have d1 : decide ((a0.size : Int) > 16) = false := decide_eq_false (by omega)
    have hT := Aside0.mk (fun (W : World) => strings_Trim.calls a0 _ _ W (if_pos ⟨by omega, rfl⟩))
    by_cases ht : Lib.trimS a0.data.toList [97, 98, 99, 100, 101, 102, 103, 104] = []
    · by_cases hz : ∀ x ∈ bytesOf a0, 0 ≤ x ∧ x < 128
      · rw [if_pos ⟨ht, hz⟩] at h
        rw [ht] at hT
        obtain ⟨t, hn, h⟩ := Option.bind_eq_some_iff.mp h
        have hN := Aside0.mk (fun (W : World) => impl_named.calls k a0 t W hn)
        go_enter Tryd.func14, Tryd.ntmps14
        have d2 : ((([] : List UInt8) != []) = true) = False := by simp
        have HB0 := Aside0.mk hb0
        clear hb0 ht hn
        by_cases e : t = a0
        · subst e
          rw [if_pos rfl] at h
          have hC := Aside0.mk (fun (W : World) (hB : w.heap.size < W.heap.size) (hc : W.cell? ⟨w.heap.size, 0, none⟩ = some (.string t)) (A : Option Addr) (c : Nat) (hr : Kd.C (Kd.int .u8) W A (bytesOf t).length (bytesOf t)) (hcap : (bytesOf t).length ≤ c) =>
            containsFunc_byte A c (bytesOf t) (missB t) 37 #[.pointer (some ⟨w.heap.size, 0, none⟩)] eg W hr hcap (loop_pred t w.heap.size (bytesOf t) hz W hB hc))
          have hlen := bytesOf_length t
          generalize (bytesOf t).any (missB t) = b at hC h
          obtain rfl := Option.some.inj h
          clear h eg hz
          go_wp2_with fail
          go_region_held3 (fun w' => w'.cell? ⟨w.heap.size, 0, none⟩ = some (.string t) ∧ w.heap.size < w'.heap.size ∧ Below w.heap.size w w')
            ((go_split_ands; refine ⟨?_, ?_, ?_⟩ <;> (first | assumption | exact HB0.out | exact below_drew HB0.out | exact below_drew (by assumption) | exact cell_keep (by assumption) (by assumption) (by assumption) | exact lt_keep (by assumption) (by assumption) | exact below_keep (by assumption) (by assumption) | (simp [*]; done))))
            (first | (go_at_call 34; refine (hT.out _).mono ?_; rintro e w' ⟨rfl, hb⟩) | (go_at_call 35; refine (hN.out _).mono ?_; rintro e w' ⟨rfl, hb2⟩))
          go_split_ands
          rename_i wr hx1 hx2 hx3
          go_wp2_with fail
          rw [print_bytes 9 37 5 Tryd.underlying9 Tryd.underlying37 Tryd.underlying5]
          simp only [Result.andThen]
          rw [Oper.upon_value]
          have hbb : Below w'.heap.size w' (Lib.bytesWorld w' 5 t) := bytes_below (Below.refl _ _) (Nat.le_refl _) 5 t
          have hCC := hC.out _ (lt_keep hbb hx2) (cell_keep hbb hx2 hx1) _ _ (bytes_C w' 5 t (by omega)) (by rw [hlen]; exact grownCap_ge w' t.size 0 5)
          rw [hlen] at hCC
          go_wp2_with (go_at_call 36; refine hCC.mono ?_; rintro e w2 ⟨rfl, hb3⟩)
          go_ret
          exact ⟨by simp, below_keep hb3 (below_keep hbb hx3)⟩
        · rw [if_neg e] at h
          obtain rfl := Option.some.inj h
          have e1 := toList_ne e
          have e2 : (t.toList == a0.toList) = false := beq_eq_false_iff_ne.mpr e1
          clear h eg hz e e1
          go_wp2_with fail
          go_region_held3 (fun w' => w'.cell? ⟨w.heap.size, 0, none⟩ = some (.string a0) ∧ w.heap.size < w'.heap.size ∧ Below w.heap.size w w')
            ((go_split_ands; refine ⟨?_, ?_, ?_⟩ <;> (first | assumption | exact HB0.out | exact below_drew HB0.out | exact below_drew (by assumption) | exact cell_keep (by assumption) (by assumption) (by assumption) | exact lt_keep (by assumption) (by assumption) | exact below_keep (by assumption) (by assumption) | (simp [*]; done))))
            (first | (go_at_call 34; refine (hT.out _).mono ?_; rintro e w' ⟨rfl, hb⟩) | (go_at_call 35; refine (hN.out _).mono ?_; rintro e w' ⟨rfl, hb2⟩))
          go_split_ands
          rename_i wr hx1 hx2 hx3
          go_wp2_with fail
          go_ret
          exact ⟨rfl, hx3⟩
      · rw [if_neg (fun e => hz e.2), if_pos ht] at h; cases h
    · rw [if_neg (fun e => ht e.1), if_neg ht] at h
      obtain rfl := Option.some.inj h
      have HB0 := Aside0.mk hb0
      generalize Lib.trimS a0.data.toList [97, 98, 99, 100, 101, 102, 103, 104] = l at ht hT
      obtain ⟨s, hs⟩ : ∃ s : ByteArray, s = ⟨l.toArray⟩ := ⟨_, rfl⟩
      rw [← hs] at hT
      have hsl : s.toList = l := by rw [hs, ByteArray.toList_eq]
      have e1 : s.toList.isEmpty = false := by rw [hsl]; cases l with
        | nil => exact absurd rfl ht
        | cons y ys => rfl
      have e2 : (s.toList == []) = false := by rw [hsl]; cases l with
        | nil => exact absurd rfl ht
        | cons y ys => rfl
      clear h eg hb0 ht hs hsl
      go_enter Tryd.func14, Tryd.ntmps14
      go_wp2_with fail
      go_region_with ((go_at_call 34; refine (hT.out _).mono ?_; rintro e w' ⟨rfl, hb⟩))
      all_goals (go_wp2_with fail; go_ret; exact ⟨rfl, below_keep hb (below_drew HB0.out)⟩)
  · rw [if_neg hl] at h
    obtain rfl := Option.some.inj h
    have d1 : decide ((a0.size : Int) > 16) = true := decide_eq_true (by omega)
    have HB0 := Aside0.mk hb0
    clear h eg hb0
    go_enter Tryd.func14, Tryd.ntmps14
    go_wp2_with fail
    go_region_with ((fail))
    all_goals (go_wp2_with fail; go_ret; exact ⟨rfl, below_drew HB0.out⟩)
end Go.Proofs.YtgdpeabbmbclbaaDoor.Pr

-- Written by a program for this claim.
namespace Go.Proofs.YtgdpeabbmbclbaaDoor.Pr
open Go.RowKit Go.Proofs.YtgdpeabbmbclbaaDoorW.PrintWords Go.Proofs.YtgdpeabbmbclbaaDoorW.PrintLast Go.Proofs.YtgdpeabbmbclbaaDoorW.PrintMore
attribute [local go_sem] max2_int min2_int max_two min_two max_three min_three max_four min_four   -- for this text's walks alone
set_option linter.unusedVariables false
set_option linter.unusedSimpArgs false

/-! ### impl_isLetter: function 55 -/
def impl_isLetter.f (k : Nat) (a0 : ByteArray) (a1 : ByteArray) : Option (Bool) := (impl_IsLoop.f k a0).bind fun t115 => (if t115 = true then (if (a1.size : Int) = 1 then ((strings_Contains.f a0 a1).bind fun t116 => (some t116)) else (some false)) else (some false))
theorem impl_isLetter.mono : ∀ a0 a1 k, LeO (impl_isLetter.f k a0 a1) (impl_isLetter.f (k + 1) a0 a1) := by
  intro a0 a1 k
  unfold impl_isLetter.f
  repeat' first
      | (with_reducible exact impl_IsLoop.mono _ _)
      | (with_reducible exact LeO.refl _)
      | (with_reducible exact LeO.none _)
      | (with_reducible refine LeO.ite ?_ ?_)
      | (with_reducible refine LeO.bind ?_ (fun _ => ?_))
      | exact impl_IsLoop.mono _ _
      | exact LeO.none _
      | refine LeO.ite ?_ ?_
      | refine LeO.bind ?_ (fun _ => ?_)
set_option maxHeartbeats 8000000 in
set_option maxRecDepth 100000 in
theorem impl_isLetter.calls (k : Nat) (a0 : ByteArray) (a1 : ByteArray) (r : Bool) (w : World) (h : impl_isLetter.f k a0 a1 = some r) :
    Calls Tryd.prog 55 #[.string a0, .string a1] w fun e w' => e = .returned (.bool r) ∧ Below w.heap.size w w' := by
  have HB := Aside0.mk (Below.refl w.heap.size w)
  have H : ((impl_IsLoop.f k a0).bind fun t115 => (if t115 = true then (if (a1.size : Int) = 1 then ((strings_Contains.f a0 a1).bind fun t116 => (some t116)) else (some false)) else (some false))) = some r := h
  clear h
  replace H := Option.bind_eq_some_iff.mp H
  obtain ⟨t115, A30, H⟩ := H
  replace H : (if t115 = true then (if (a1.size : Int) = 1 then ((strings_Contains.f a0 a1).bind fun t116 => (some t116)) else (some false)) else (some false)) = some r := H
  have A3 := Aside0.mk A30
  clear A30
  by_cases c4 : t115 = true
  · subst c4
    have H1 : (if (a1.size : Int) = 1 then ((strings_Contains.f a0 a1).bind fun t116 => (some t116)) else (some false)) = some r := by rw [if_pos rfl] at H; exact H
    clear H
    have H := H1
    clear H1
    by_cases c5 : (a1.size : Int) = 1
    · rw [if_pos c5] at H
      have c5b0 : ((a1.size : Int) == 1) = true := beq_iff_eq.mpr c5
      have c5b1 : ((a1.size : Int) != 1) = false := bne_eq_false_iff_eq.mpr c5
      clear c5
      replace H := Option.bind_eq_some_iff.mp H
      obtain ⟨t116, A60, H⟩ := H
      replace H : (some t116) = some r := H
      have A6 := Aside0.mk A60
      clear A60
      obtain rfl := Option.some.inj H
      go_enter Tryd.func55, Tryd.ntmps55
      go_wp2_with (first | ((with_reducible refine gate_callee (f := 14) rfl ?_); refine goesL_ (some 6) rfl rfl Tryd.func14 (by kernel_rfl) rfl #[.string a0] rfl (by (try simp only [List.map_toArray, List.map_cons, List.map_nil]); first | done | rfl | (simp only [List.length_drop, List.length_take]; rfl)) ?_; (with_reducible refine (impl_IsLoop.calls k a0 true _ A3.out).mono ?_); rintro e w7 ⟨rfl, hb⟩; refine ⟨_, rfl, ?_⟩; have n0_ := Aside0.mk (below_step (by repeat (first | (with_reducible first | exact HB.out | apply below_alloc | apply pw_below_drewN | apply below_drew1) | exact HB.out)) hb); clear HB; have HB := n0_; clear n0_; (try clear hb); (try clear hb2); (try clear hk); (try clear hi)) | (go_at_call 72; (with_reducible refine (strings_Contains.calls a0 a1 t116 _ A6.out).mono ?_); rintro e w' ⟨rfl, ⟨nd, rfl⟩⟩))
      go_ret
      exact ⟨by first | rfl | (simp [errW_none, errW_some] <;> rfl) | (simp [*, errW_none, errW_some] <;> rfl), by repeat (first | (with_reducible first | exact HB.out | apply below_alloc | apply pw_below_drewN | apply below_drew1) | exact HB.out)⟩
    · rw [if_neg c5] at H
      have c5b0 : ((a1.size : Int) == 1) = false := beq_eq_false_iff_ne.mpr c5
      have c5b1 : ((a1.size : Int) != 1) = true := bne_iff_ne.mpr c5
      obtain rfl := Option.some.inj H
      go_enter Tryd.func55, Tryd.ntmps55
      go_wp2_with (first | ((with_reducible refine gate_callee (f := 14) rfl ?_); refine goesL_ (some 6) rfl rfl Tryd.func14 (by kernel_rfl) rfl #[.string a0] rfl (by (try simp only [List.map_toArray, List.map_cons, List.map_nil]); first | done | rfl | (simp only [List.length_drop, List.length_take]; rfl)) ?_; (with_reducible refine (impl_IsLoop.calls k a0 true _ A3.out).mono ?_); rintro e w8 ⟨rfl, hb⟩; refine ⟨_, rfl, ?_⟩; have n0_ := Aside0.mk (below_step (by repeat (first | (with_reducible first | exact HB.out | apply below_alloc | apply pw_below_drewN | apply below_drew1) | exact HB.out)) hb); clear HB; have HB := n0_; clear n0_; (try clear hb); (try clear hb2); (try clear hk); (try clear hi)))
      go_ret
      exact ⟨by first | rfl | (simp [errW_none, errW_some] <;> rfl) | (simp [*, errW_none, errW_some] <;> rfl), by repeat (first | (with_reducible first | exact HB.out | apply below_alloc | apply pw_below_drewN | apply below_drew1) | exact HB.out)⟩
  · replace c4 := Bool.eq_false_iff.mpr c4
    subst c4
    have H1 : (some false) = some r := by rw [if_neg (show ¬ (false = true) by decide)] at H; exact H
    clear H
    have H := H1
    clear H1
    obtain rfl := Option.some.inj H
    go_enter Tryd.func55, Tryd.ntmps55
    go_wp2_with (first | ((with_reducible refine gate_callee (f := 14) rfl ?_); refine goesL_ (some 6) rfl rfl Tryd.func14 (by kernel_rfl) rfl #[.string a0] rfl (by (try simp only [List.map_toArray, List.map_cons, List.map_nil]); first | done | rfl | (simp only [List.length_drop, List.length_take]; rfl)) ?_; (with_reducible refine (impl_IsLoop.calls k a0 false _ A3.out).mono ?_); rintro e w9 ⟨rfl, hb⟩; refine ⟨_, rfl, ?_⟩; have n0_ := Aside0.mk (below_step (by repeat (first | (with_reducible first | exact HB.out | apply below_alloc | apply pw_below_drewN | apply below_drew1) | exact HB.out)) hb); clear HB; have HB := n0_; clear n0_; (try clear hb); (try clear hb2); (try clear hk); (try clear hi)))
    go_ret
    exact ⟨by first | rfl | (simp [errW_none, errW_some] <;> rfl) | (simp [*, errW_none, errW_some] <;> rfl), by repeat (first | (with_reducible first | exact HB.out | apply below_alloc | apply pw_below_drewN | apply below_drew1) | exact HB.out)⟩

end Go.Proofs.YtgdpeabbmbclbaaDoor.Pr

-- Written by a program for this claim.
namespace Go.Proofs.YtgdpeabbmbclbaaDoor.Pr
open Go.RowKit Go.Proofs.YtgdpeabbmbclbaaDoorW.PrintWords Go.Proofs.YtgdpeabbmbclbaaDoorW.PrintLast Go.Proofs.YtgdpeabbmbclbaaDoorW.PrintMore
attribute [local go_sem] max2_int min2_int max_two min_two max_three min_three max_four min_four   -- for this text's walks alone
set_option linter.unusedVariables false
set_option linter.unusedSimpArgs false

/-! ### spec_loAnew: function 41 -/
mutual
def spec_loAnew.l0 : Nat → ByteArray → ByteArray → ByteArray → Int → Option (ByteArray)
  | 0, _, _, _, _ => none
  | k + 1, x0, x3, x4, x5 => if x5 < (x0.size : Int) then (spec_loAnew.l1 k x0 x3 x4 x5 (-1) 0) else (some x4)
def spec_loAnew.l1 : Nat → ByteArray → ByteArray → ByteArray → Int → Int → Int → Option (ByteArray)
  | 0, _, _, _, _, _, _ => none
  | k + 1, x0, x3, x4, x5, x6, x7 => if x7 < (x3.size : Int) then (if 0 ≤ x7 then (if 0 ≤ x5 then (if x5 < (x0.size : Int) then (if (bt x3 x7) = (bt x0 x5) then (spec_loAnew.l1 k x0 x3 x4 x5 x7 (wrap64 (x7 + 1))) else (spec_loAnew.l1 k x0 x3 x4 x5 x6 (wrap64 (x7 + 1)))) else (none)) else (none)) else (none)) else (if x6 < 0 then (if 0 ≤ x5 then (if x5 ≤ (wrap64 (x5 + 1)) then (if (wrap64 (x5 + 1)) ≤ (x0.size : Int) then (if x3.size + (x0.extract (x5 : Int).toNat ((wrap64 (x5 + 1)) : Int).toNat).size ≤ 9223372036854775807 then (if 0 ≤ (x3.size : Int) then (if (x3.size : Int) ≤ (wrap64 ((x3.size : Int) + 1)) then (if (wrap64 ((x3.size : Int) + 1)) ≤ 16 then (if x4.size + ((⟨#[97, 98, 99, 100, 101, 102, 103, 104, 105, 106, 107, 108, 109, 110, 111, 112]⟩ : ByteArray).extract ((x3.size : Int) : Int).toNat ((wrap64 ((x3.size : Int) + 1)) : Int).toNat).size ≤ 9223372036854775807 then (spec_loAnew.l0 k x0 (x3 ++ (x0.extract (x5 : Int).toNat ((wrap64 (x5 + 1)) : Int).toNat)) (x4 ++ ((⟨#[97, 98, 99, 100, 101, 102, 103, 104, 105, 106, 107, 108, 109, 110, 111, 112]⟩ : ByteArray).extract ((x3.size : Int) : Int).toNat ((wrap64 ((x3.size : Int) + 1)) : Int).toNat)) (wrap64 (x5 + 1))) else (none)) else (none)) else (none)) else (none)) else (none)) else (none)) else (none)) else (none)) else (if 0 ≤ x6 then (if x6 ≤ (wrap64 (x6 + 1)) then (if (wrap64 (x6 + 1)) ≤ 16 then (if x4.size + ((⟨#[97, 98, 99, 100, 101, 102, 103, 104, 105, 106, 107, 108, 109, 110, 111, 112]⟩ : ByteArray).extract (x6 : Int).toNat ((wrap64 (x6 + 1)) : Int).toNat).size ≤ 9223372036854775807 then (spec_loAnew.l0 k x0 x3 (x4 ++ ((⟨#[97, 98, 99, 100, 101, 102, 103, 104, 105, 106, 107, 108, 109, 110, 111, 112]⟩ : ByteArray).extract (x6 : Int).toNat ((wrap64 (x6 + 1)) : Int).toNat)) (wrap64 (x5 + 1))) else (none)) else (none)) else (none)) else (none)))
end
def spec_loAnew.f (k : Nat) (a0 : ByteArray) : Option (ByteArray) := spec_loAnew.l0 k a0 (⟨#[]⟩ : ByteArray) (⟨#[]⟩ : ByteArray) 0
theorem spec_loAnew.mono_l : ∀ k, (∀ y0 y1 y2 y3, LeO (spec_loAnew.l0 k y0 y1 y2 y3) (spec_loAnew.l0 (k + 1) y0 y1 y2 y3)) ∧ (∀ y0 y1 y2 y3 y4 y5, LeO (spec_loAnew.l1 k y0 y1 y2 y3 y4 y5) (spec_loAnew.l1 (k + 1) y0 y1 y2 y3 y4 y5))
  | 0 => ⟨fun _ _ _ _ r h => by simp [spec_loAnew.l0] at h, fun _ _ _ _ _ _ r h => by simp [spec_loAnew.l1] at h⟩
  | k + 1 => by
    obtain ⟨ih0, ih1⟩ := spec_loAnew.mono_l k
    refine ⟨?_, ?_⟩
    · intro y0 y1 y2 y3
      unfold spec_loAnew.l0
      repeat' first
      | (with_reducible exact ih0 _ _ _ _)
      | (with_reducible exact ih1 _ _ _ _ _ _)
      | (with_reducible exact LeO.refl _)
      | (with_reducible exact LeO.none _)
      | (with_reducible refine LeO.ite ?_ ?_)
      | (with_reducible refine LeO.bind ?_ (fun _ => ?_))
      | exact ih0 _ _ _ _
      | exact ih1 _ _ _ _ _ _
      | exact LeO.none _
      | refine LeO.ite ?_ ?_
      | refine LeO.bind ?_ (fun _ => ?_)
    · intro y0 y1 y2 y3 y4 y5
      unfold spec_loAnew.l1
      repeat' first
      | (with_reducible exact ih0 _ _ _ _)
      | (with_reducible exact ih1 _ _ _ _ _ _)
      | (with_reducible exact LeO.refl _)
      | (with_reducible exact LeO.none _)
      | (with_reducible refine LeO.ite ?_ ?_)
      | (with_reducible refine LeO.bind ?_ (fun _ => ?_))
      | exact ih0 _ _ _ _
      | exact ih1 _ _ _ _ _ _
      | exact LeO.none _
      | refine LeO.ite ?_ ?_
      | refine LeO.bind ?_ (fun _ => ?_)
theorem spec_loAnew.mono : ∀ a0 k, LeO (spec_loAnew.f k a0) (spec_loAnew.f (k + 1) a0) := by
  intro a0 k
  obtain ⟨ih0, ih1⟩ := spec_loAnew.mono_l k
  unfold spec_loAnew.f
  repeat' first
      | (with_reducible exact ih0 _ _ _ _)
      | (with_reducible exact ih1 _ _ _ _ _ _)
      | (with_reducible exact LeO.refl _)
      | (with_reducible exact LeO.none _)
      | (with_reducible refine LeO.ite ?_ ?_)
      | (with_reducible refine LeO.bind ?_ (fun _ => ?_))
      | exact ih0 _ _ _ _
      | exact ih1 _ _ _ _ _ _
      | exact LeO.none _
      | refine LeO.ite ?_ ?_
      | refine LeO.bind ?_ (fun _ => ?_)
set_option maxHeartbeats 8000000 in
set_option maxRecDepth 100000 in
theorem spec_loAnew.calls (k : Nat) (a0 : ByteArray) (r : ByteArray) (w : World) (h : spec_loAnew.f k a0 = some r) :
    Calls Tryd.prog 41 #[.string a0] w fun e w' => e = .returned (.string r) ∧ Drawn0 w w' := by
  have H : (spec_loAnew.l0 k a0 (⟨#[]⟩ : ByteArray) (⟨#[]⟩ : ByteArray) 0) = some r := h
  clear h
  have H' := Aside0.mk H
  clear H
  go_enter Tryd.func41, Tryd.ntmps41
  go_wp2
  repeat (go_quiet (fail); try go_wp2)
  go_loopg [3, 4, 5] k (fun kq v3 v4 v5 w' => ∃ (x3_1 : ByteArray) (x4_1 : ByteArray) (x5_1 : Int), v3 = .string x3_1 ∧ v4 = .string x4_1 ∧ v5 = .int .i64 x5_1 ∧ Aside0 (spec_loAnew.l0 kq a0 x3_1 x4_1 x5_1 = some r) ∧ Aside0 (kq ≤ k) ∧ Drawn0 w w')
  case atStart => exact ⟨((⟨#[]⟩ : ByteArray)), ((⟨#[]⟩ : ByteArray)), (0), (by first | rfl | (simp; done) | (simp [*]; done)), (by first | rfl | (simp; done) | (simp [*]; done)), (by first | rfl | (simp; done) | (simp [*]; done)), H', ⟨Nat.le_refl _⟩, by repeat (first | exact Drawn0.refl _ | apply Drawn0.step)⟩
  case round =>
    clear H'
    obtain ⟨x3_1, x4_1, x5_1, rfl, rfl, rfl, HA, HK1, ⟨m1, rfl⟩⟩ := hrel
    cases gk with
    | zero => exact absurd HA.out (by simp [spec_loAnew.l0])
    | succ k1 =>
      have H := HA.out
      clear HA
      simp only [spec_loAnew.l0] at H
      by_cases c2 : x5_1 < (a0.size : Int)
      · rw [if_pos c2] at H
        have c2b0 : decide (x5_1 < (a0.size : Int)) = true := decide_eq_true c2
        clear c2
        have H' := Aside0.mk H
        clear H
        go_wp2
        repeat (go_quiet (fail); try go_wp2)
        go_loopg [6, 7] k1 (fun kq v6 v7 w' => ∃ (x6_2 : Int) (x7_2 : Int), v6 = .int .i64 x6_2 ∧ v7 = .int .i64 x7_2 ∧ Aside0 (spec_loAnew.l1 kq a0 x3_1 x4_1 x5_1 x6_2 x7_2 = some r) ∧ Aside0 (kq ≤ k1) ∧ Drawn0 w w')
        case atStart => exact ⟨((-1)), (0), (by first | rfl | (simp; done) | (simp [*]; done)), (by first | rfl | (simp; done) | (simp [*]; done)), H', ⟨Nat.le_refl _⟩, by repeat (first | exact Drawn0.refl _ | apply Drawn0.step)⟩
        case round =>
          clear H'
          try clear c2
          try clear c2b0
          try clear p2
          obtain ⟨x6_2, x7_2, rfl, rfl, HA, HK2, ⟨m2, rfl⟩⟩ := hrel
          cases gk with
          | zero => exact absurd HA.out (by simp [spec_loAnew.l1])
          | succ k2 =>
            have H := HA.out
            clear HA
            simp only [spec_loAnew.l1] at H
            by_cases c3 : x7_2 < (x3_1.size : Int)
            · rw [if_pos c3] at H
              have c3b0 : decide (x7_2 < (x3_1.size : Int)) = true := decide_eq_true c3
              clear c3
              by_cases c4 : 0 ≤ x7_2
              · rw [if_pos c4] at H
                have c4b0 : decide (0 ≤ x7_2) = true := decide_eq_true c4
                clear c4
                by_cases c6 : 0 ≤ x5_1
                · rw [if_pos c6] at H
                  have c6b0 : decide (0 ≤ x5_1) = true := decide_eq_true c6
                  clear c6
                  by_cases c7 : x5_1 < (a0.size : Int)
                  · rw [if_pos c7] at H
                    have c7b0 : decide (x5_1 < (a0.size : Int)) = true := decide_eq_true c7
                    clear c7
                    by_cases c9 : (bt x3_1 x7_2) = (bt a0 x5_1)
                    · rw [if_pos c9] at H
                      have c9b0 : ((bt x3_1 x7_2) == (bt a0 x5_1)) = true := beq_iff_eq.mpr c9
                      have c9b1 : ((bt x3_1 x7_2) != (bt a0 x5_1)) = false := bne_eq_false_iff_eq.mpr c9
                      clear c9
                      have H' := Aside0.mk H
                      clear H
                      have p5 : 0 ≤ (x7_2 : Int) := of_decide_eq_true (by first | (with_reducible assumption) | assumption)
                      have q5 : x7_2 < (x3_1.size : Int) := of_decide_eq_true (by first | (with_reducible assumption) | assumption)
                      have hx5 := bt_at x3_1 x7_2
                      replace p5 := eq_true p5
                      replace q5 := eq_true q5
                      have p8 : 0 ≤ (x5_1 : Int) := of_decide_eq_true (by first | (with_reducible assumption) | assumption)
                      have q8 : x5_1 < (a0.size : Int) := of_decide_eq_true (by first | (with_reducible assumption) | assumption)
                      have hx8 := bt_at a0 x5_1
                      replace p8 := eq_true p8
                      replace q8 := eq_true q8
                      go_wp2
                      repeat (go_quiet (fail); try go_wp2)
                      go_roundg k2
                      case measure => have := HK1.out; have := HK2.out; omega
                      case rel => exact ⟨(x7_2), (wrap64 (x7_2 + 1)), (by first | rfl | (simp; done) | (simp [*]; done)), (by first | rfl | (simp; done) | (simp [*]; done)), H', ⟨by have := HK1.out; have := HK2.out; omega⟩, by repeat (first | exact Drawn0.refl _ | apply Drawn0.step)⟩
                    · rw [if_neg c9] at H
                      have c9b0 : ((bt x3_1 x7_2) == (bt a0 x5_1)) = false := beq_eq_false_iff_ne.mpr c9
                      have c9b1 : ((bt x3_1 x7_2) != (bt a0 x5_1)) = true := bne_iff_ne.mpr c9
                      have H' := Aside0.mk H
                      clear H
                      have p5 : 0 ≤ (x7_2 : Int) := of_decide_eq_true (by first | (with_reducible assumption) | assumption)
                      have q5 : x7_2 < (x3_1.size : Int) := of_decide_eq_true (by first | (with_reducible assumption) | assumption)
                      have hx5 := bt_at x3_1 x7_2
                      replace p5 := eq_true p5
                      replace q5 := eq_true q5
                      have p8 : 0 ≤ (x5_1 : Int) := of_decide_eq_true (by first | (with_reducible assumption) | assumption)
                      have q8 : x5_1 < (a0.size : Int) := of_decide_eq_true (by first | (with_reducible assumption) | assumption)
                      have hx8 := bt_at a0 x5_1
                      replace p8 := eq_true p8
                      replace q8 := eq_true q8
                      go_wp2
                      repeat (go_quiet (fail); try go_wp2)
                      go_roundg k2
                      case measure => have := HK1.out; have := HK2.out; omega
                      case rel => exact ⟨(x6_2), (wrap64 (x7_2 + 1)), (by first | rfl | (simp; done) | (simp [*]; done)), (by first | rfl | (simp; done) | (simp [*]; done)), H', ⟨by have := HK1.out; have := HK2.out; omega⟩, by repeat (first | exact Drawn0.refl _ | apply Drawn0.step)⟩
                  · rw [if_neg c7] at H
                    exact absurd H (by simp)
                · rw [if_neg c6] at H
                  exact absurd H (by simp)
              · rw [if_neg c4] at H
                exact absurd H (by simp)
            · rw [if_neg c3] at H
              have c3b0 : decide (x7_2 < (x3_1.size : Int)) = false := decide_eq_false c3
              clear c3
              by_cases c10 : x6_2 < 0
              · rw [if_pos c10] at H
                have c10b0 : decide (x6_2 < 0) = true := decide_eq_true c10
                clear c10
                by_cases c11 : 0 ≤ x5_1
                · rw [if_pos c11] at H
                  have c11b0 := eq_true c11
                  have c11b1 : decide (0 ≤ x5_1) = true := decide_eq_true c11
                  clear c11
                  by_cases c12 : x5_1 ≤ (wrap64 (x5_1 + 1))
                  · rw [if_pos c12] at H
                    have c12b0 := eq_true c12
                    have c12b1 : decide (x5_1 ≤ (wrap64 (x5_1 + 1))) = true := decide_eq_true c12
                    by_cases c13 : (wrap64 (x5_1 + 1)) ≤ (a0.size : Int)
                    · rw [if_pos c13] at H
                      have c13b0 := eq_true c13
                      have c13b1 : decide ((wrap64 (x5_1 + 1)) ≤ (a0.size : Int)) = true := decide_eq_true c13
                      by_cases c14 : x3_1.size + (a0.extract (x5_1 : Int).toNat ((wrap64 (x5_1 + 1)) : Int).toNat).size ≤ 9223372036854775807
                      · rw [if_pos c14] at H
                        have c14b0 := eq_true c14
                        have c14b1 : decide (x3_1.size + (a0.extract (x5_1 : Int).toNat ((wrap64 (x5_1 + 1)) : Int).toNat).size ≤ 9223372036854775807) = true := decide_eq_true c14
                        try have c14b2 : (9223372036854775807 < x3_1.size + (a0.extract (x5_1 : Int).toNat ((wrap64 (x5_1 + 1)) : Int).toNat).size) = False := eq_false (Nat.not_lt.2 c14)
                        by_cases c15 : 0 ≤ (x3_1.size : Int)
                        · rw [if_pos c15] at H
                          have c15b0 := eq_true c15
                          have c15b1 : decide (0 ≤ (x3_1.size : Int)) = true := decide_eq_true c15
                          clear c15
                          by_cases c16 : (x3_1.size : Int) ≤ (wrap64 ((x3_1.size : Int) + 1))
                          · rw [if_pos c16] at H
                            have c16b0 := eq_true c16
                            have c16b1 : decide ((x3_1.size : Int) ≤ (wrap64 ((x3_1.size : Int) + 1))) = true := decide_eq_true c16
                            have hwc16_ : wrap64 ((x3_1.size : Int) + 1) = (x3_1.size : Int) + 1 := by clear H; unfold wrap64 at c16 ⊢; omega
                            by_cases c17 : (wrap64 ((x3_1.size : Int) + 1)) ≤ 16
                            · rw [if_pos c17] at H
                              have c17b0 := eq_true c17
                              have c17b1 : decide ((wrap64 ((x3_1.size : Int) + 1)) ≤ 16) = true := decide_eq_true c17
                              by_cases c18 : x4_1.size + ((⟨#[97, 98, 99, 100, 101, 102, 103, 104, 105, 106, 107, 108, 109, 110, 111, 112]⟩ : ByteArray).extract ((x3_1.size : Int) : Int).toNat ((wrap64 ((x3_1.size : Int) + 1)) : Int).toNat).size ≤ 9223372036854775807
                              · rw [if_pos c18] at H
                                have c18b0 := eq_true c18
                                have c18b1 : decide (x4_1.size + ((⟨#[97, 98, 99, 100, 101, 102, 103, 104, 105, 106, 107, 108, 109, 110, 111, 112]⟩ : ByteArray).extract ((x3_1.size : Int) : Int).toNat ((wrap64 ((x3_1.size : Int) + 1)) : Int).toNat).size ≤ 9223372036854775807) = true := decide_eq_true c18
                                try have c18b2 : (9223372036854775807 < x4_1.size + ((⟨#[97, 98, 99, 100, 101, 102, 103, 104, 105, 106, 107, 108, 109, 110, 111, 112]⟩ : ByteArray).extract ((x3_1.size : Int) : Int).toNat ((wrap64 ((x3_1.size : Int) + 1)) : Int).toNat).size) = False := eq_false (Nat.not_lt.2 c18)
                                try have c18b3 : (9223372036854775807 < x4_1.size + (min (x3_1.size + 1) 16 - x3_1.size)) = False := eq_false (by have h1_ := c18; simp only [hwc16_, Int.toNat_natCast, Int.toNat_natCast_add_one, ByteArray.size_extract] at h1_; exact Nat.not_lt.2 h1_)
                                try simp only [hwc16_, Int.toNat_natCast, Int.toNat_natCast_add_one] at c16b0
                                try simp only [hwc16_, Int.toNat_natCast, Int.toNat_natCast_add_one] at c16b1
                                try simp only [hwc16_, Int.toNat_natCast, Int.toNat_natCast_add_one] at c17b0
                                try simp only [hwc16_, Int.toNat_natCast, Int.toNat_natCast_add_one] at c17b1
                                try simp only [hwc16_, Int.toNat_natCast, Int.toNat_natCast_add_one] at c18b0
                                try simp only [hwc16_, Int.toNat_natCast, Int.toNat_natCast_add_one] at c18b1
                                try simp only [hwc16_, Int.toNat_natCast, Int.toNat_natCast_add_one] at c18b2
                                have H' := Aside0.mk H
                                clear H
                                go_wp2
                                repeat (go_quiet (fail); try go_wp2)
                                go_roundg k2
                                case measure => have := HK1.out; have := HK2.out; omega
                                case rel => exact ⟨(x3_1 ++ (a0.extract (x5_1 : Int).toNat ((wrap64 (x5_1 + 1)) : Int).toNat)), (x4_1 ++ ((⟨#[97, 98, 99, 100, 101, 102, 103, 104, 105, 106, 107, 108, 109, 110, 111, 112]⟩ : ByteArray).extract ((x3_1.size : Int) : Int).toNat ((wrap64 ((x3_1.size : Int) + 1)) : Int).toNat)), (wrap64 (x5_1 + 1)), (by first | rfl | (simp; done) | (simp [*]; done)), (by first | rfl | (simp; done) | (simp [*]; done)), (by first | rfl | (simp; done) | (simp [*]; done)), H', ⟨by have := HK1.out; have := HK2.out; omega⟩, by repeat (first | exact Drawn0.refl _ | apply Drawn0.step)⟩
                              · rw [if_neg c18] at H
                                exact absurd H (by simp)
                            · rw [if_neg c17] at H
                              exact absurd H (by simp)
                          · rw [if_neg c16] at H
                            exact absurd H (by simp)
                        · rw [if_neg c15] at H
                          exact absurd H (by simp)
                      · rw [if_neg c14] at H
                        exact absurd H (by simp)
                    · rw [if_neg c13] at H
                      exact absurd H (by simp)
                  · rw [if_neg c12] at H
                    exact absurd H (by simp)
                · rw [if_neg c11] at H
                  exact absurd H (by simp)
              · rw [if_neg c10] at H
                have c10b0 : decide (x6_2 < 0) = false := decide_eq_false c10
                clear c10
                by_cases c19 : 0 ≤ x6_2
                · rw [if_pos c19] at H
                  have c19b0 := eq_true c19
                  have c19b1 : decide (0 ≤ x6_2) = true := decide_eq_true c19
                  clear c19
                  by_cases c20 : x6_2 ≤ (wrap64 (x6_2 + 1))
                  · rw [if_pos c20] at H
                    have c20b0 := eq_true c20
                    have c20b1 : decide (x6_2 ≤ (wrap64 (x6_2 + 1))) = true := decide_eq_true c20
                    by_cases c21 : (wrap64 (x6_2 + 1)) ≤ 16
                    · rw [if_pos c21] at H
                      have c21b0 := eq_true c21
                      have c21b1 : decide ((wrap64 (x6_2 + 1)) ≤ 16) = true := decide_eq_true c21
                      by_cases c22 : x4_1.size + ((⟨#[97, 98, 99, 100, 101, 102, 103, 104, 105, 106, 107, 108, 109, 110, 111, 112]⟩ : ByteArray).extract (x6_2 : Int).toNat ((wrap64 (x6_2 + 1)) : Int).toNat).size ≤ 9223372036854775807
                      · rw [if_pos c22] at H
                        have c22b0 := eq_true c22
                        have c22b1 : decide (x4_1.size + ((⟨#[97, 98, 99, 100, 101, 102, 103, 104, 105, 106, 107, 108, 109, 110, 111, 112]⟩ : ByteArray).extract (x6_2 : Int).toNat ((wrap64 (x6_2 + 1)) : Int).toNat).size ≤ 9223372036854775807) = true := decide_eq_true c22
                        try have c22b2 : (9223372036854775807 < x4_1.size + ((⟨#[97, 98, 99, 100, 101, 102, 103, 104, 105, 106, 107, 108, 109, 110, 111, 112]⟩ : ByteArray).extract (x6_2 : Int).toNat ((wrap64 (x6_2 + 1)) : Int).toNat).size) = False := eq_false (Nat.not_lt.2 c22)
                        have H' := Aside0.mk H
                        clear H
                        go_wp2
                        repeat (go_quiet (fail); try go_wp2)
                        go_roundg k2
                        case measure => have := HK1.out; have := HK2.out; omega
                        case rel => exact ⟨(x3_1), (x4_1 ++ ((⟨#[97, 98, 99, 100, 101, 102, 103, 104, 105, 106, 107, 108, 109, 110, 111, 112]⟩ : ByteArray).extract (x6_2 : Int).toNat ((wrap64 (x6_2 + 1)) : Int).toNat)), (wrap64 (x5_1 + 1)), (by first | rfl | (simp; done) | (simp [*]; done)), (by first | rfl | (simp; done) | (simp [*]; done)), (by first | rfl | (simp; done) | (simp [*]; done)), H', ⟨by have := HK1.out; have := HK2.out; omega⟩, by repeat (first | exact Drawn0.refl _ | apply Drawn0.step)⟩
                      · rw [if_neg c22] at H
                        exact absurd H (by simp)
                    · rw [if_neg c21] at H
                      exact absurd H (by simp)
                  · rw [if_neg c20] at H
                    exact absurd H (by simp)
                · rw [if_neg c19] at H
                  exact absurd H (by simp)
      · rw [if_neg c2] at H
        have c2b0 : decide (x5_1 < (a0.size : Int)) = false := decide_eq_false c2
        clear c2
        obtain rfl := Option.some.inj H
        go_wp2
        repeat (go_quiet (fail); try go_wp2)
        go_ret
        exact ⟨by first | rfl | (simp; done) | (simp [*]; done), by repeat (first | exact Drawn0.refl _ | apply Drawn0.step)⟩

end Go.Proofs.YtgdpeabbmbclbaaDoor.Pr

-- Written by a program for this claim.
namespace Go.Proofs.YtgdpeabbmbclbaaDoor.Pr
open Go.RowKit Go.Proofs.YtgdpeabbmbclbaaDoorW.PrintWords Go.Proofs.YtgdpeabbmbclbaaDoorW.PrintLast Go.Proofs.YtgdpeabbmbclbaaDoorW.PrintMore
attribute [local go_sem] max2_int min2_int max_two min_two max_three min_three max_four min_four   -- for this text's walks alone
set_option linter.unusedVariables false
set_option linter.unusedSimpArgs false

/-! ### spec_loGood: function 33 -/
mutual
def spec_loGood.j0 : Nat → ByteArray → Bool → Option (Bool)
  | 0, _, _ => none
  | k + 1, x0, x14 => if x14 = true then (some false) else (spec_loGood.l0 k x0 0)
def spec_loGood.l0 : Nat → ByteArray → Int → Option (Bool)
  | 0, _, _ => none
  | k + 1, x0, x3 => if x3 < (x0.size : Int) then (spec_loGood.l1 k x0 x3 0 0) else ((spec_loAnew.f k x0).bind fun t117 => (some (t117.toList == x0.toList)))
def spec_loGood.l1 : Nat → ByteArray → Int → Int → Int → Option (Bool)
  | 0, _, _, _, _ => none
  | k + 1, x0, x3, x4, x5 => if x5 < (x0.size : Int) then (if 0 ≤ x5 then (if 0 ≤ x3 then (if x3 < (x0.size : Int) then (if (bt x0 x5) = (bt x0 x3) then (spec_loGood.l1 k x0 x3 (wrap64 (x4 + 1)) (wrap64 (x5 + 1))) else (spec_loGood.l1 k x0 x3 x4 (wrap64 (x5 + 1)))) else (none)) else (none)) else (none)) else (if x4 = 2 then (spec_loGood.l0 k x0 (wrap64 (x3 + 1))) else (some false))
end
def spec_loGood.f (k : Nat) (a0 : ByteArray) : Option (Bool) := if (a0.size : Int) > 16 then (spec_loGood.j0 k a0 true) else (spec_loGood.j0 k a0 (((a0.size : Int) % 2) != 0))
theorem spec_loGood.mono_l : ∀ k, (∀ y0 y1, LeO (spec_loGood.j0 k y0 y1) (spec_loGood.j0 (k + 1) y0 y1)) ∧ (∀ y0 y1, LeO (spec_loGood.l0 k y0 y1) (spec_loGood.l0 (k + 1) y0 y1)) ∧ (∀ y0 y1 y2 y3, LeO (spec_loGood.l1 k y0 y1 y2 y3) (spec_loGood.l1 (k + 1) y0 y1 y2 y3))
  | 0 => ⟨fun _ _ r h => by simp [spec_loGood.j0] at h, fun _ _ r h => by simp [spec_loGood.l0] at h, fun _ _ _ _ r h => by simp [spec_loGood.l1] at h⟩
  | k + 1 => by
    obtain ⟨ih0, ih1, ih2⟩ := spec_loGood.mono_l k
    refine ⟨?_, ?_, ?_⟩
    · intro y0 y1
      unfold spec_loGood.j0
      repeat' first
      | (with_reducible exact ih0 _ _)
      | (with_reducible exact ih1 _ _)
      | (with_reducible exact ih2 _ _ _ _)
      | (with_reducible exact spec_loAnew.mono _ _)
      | (with_reducible exact LeO.refl _)
      | (with_reducible exact LeO.none _)
      | (with_reducible refine LeO.ite ?_ ?_)
      | (with_reducible refine LeO.bind ?_ (fun _ => ?_))
      | exact ih0 _ _
      | exact ih1 _ _
      | exact ih2 _ _ _ _
      | exact spec_loAnew.mono _ _
      | exact LeO.none _
      | refine LeO.ite ?_ ?_
      | refine LeO.bind ?_ (fun _ => ?_)
    · intro y0 y1
      unfold spec_loGood.l0
      repeat' first
      | (with_reducible exact ih0 _ _)
      | (with_reducible exact ih1 _ _)
      | (with_reducible exact ih2 _ _ _ _)
      | (with_reducible exact spec_loAnew.mono _ _)
      | (with_reducible exact LeO.refl _)
      | (with_reducible exact LeO.none _)
      | (with_reducible refine LeO.ite ?_ ?_)
      | (with_reducible refine LeO.bind ?_ (fun _ => ?_))
      | exact ih0 _ _
      | exact ih1 _ _
      | exact ih2 _ _ _ _
      | exact spec_loAnew.mono _ _
      | exact LeO.none _
      | refine LeO.ite ?_ ?_
      | refine LeO.bind ?_ (fun _ => ?_)
    · intro y0 y1 y2 y3
      unfold spec_loGood.l1
      repeat' first
      | (with_reducible exact ih0 _ _)
      | (with_reducible exact ih1 _ _)
      | (with_reducible exact ih2 _ _ _ _)
      | (with_reducible exact spec_loAnew.mono _ _)
      | (with_reducible exact LeO.refl _)
      | (with_reducible exact LeO.none _)
      | (with_reducible refine LeO.ite ?_ ?_)
      | (with_reducible refine LeO.bind ?_ (fun _ => ?_))
      | exact ih0 _ _
      | exact ih1 _ _
      | exact ih2 _ _ _ _
      | exact spec_loAnew.mono _ _
      | exact LeO.none _
      | refine LeO.ite ?_ ?_
      | refine LeO.bind ?_ (fun _ => ?_)
theorem spec_loGood.mono : ∀ a0 k, LeO (spec_loGood.f k a0) (spec_loGood.f (k + 1) a0) := by
  intro a0 k
  obtain ⟨ih0, ih1, ih2⟩ := spec_loGood.mono_l k
  unfold spec_loGood.f
  repeat' first
      | (with_reducible exact ih0 _ _)
      | (with_reducible exact ih1 _ _)
      | (with_reducible exact ih2 _ _ _ _)
      | (with_reducible exact spec_loAnew.mono _ _)
      | (with_reducible exact LeO.refl _)
      | (with_reducible exact LeO.none _)
      | (with_reducible refine LeO.ite ?_ ?_)
      | (with_reducible refine LeO.bind ?_ (fun _ => ?_))
      | exact ih0 _ _
      | exact ih1 _ _
      | exact ih2 _ _ _ _
      | exact spec_loAnew.mono _ _
      | exact LeO.none _
      | refine LeO.ite ?_ ?_
      | refine LeO.bind ?_ (fun _ => ?_)
set_option maxHeartbeats 8000000 in
set_option maxRecDepth 100000 in
theorem spec_loGood.calls (k : Nat) (a0 : ByteArray) (r : Bool) (w : World) (h : spec_loGood.f k a0 = some r) :
    Calls Tryd.prog 33 #[.string a0] w fun e w' => e = .returned (.bool r) ∧ Drawn0 w w' := by
  have H : (if (a0.size : Int) > 16 then (spec_loGood.j0 k a0 true) else (spec_loGood.j0 k a0 (((a0.size : Int) % 2) != 0))) = some r := h
  clear h
  have HC2 := Aside0.mk H
  clear H
  go_enter Tryd.func33, Tryd.ntmps33
  go_upto_region 1 with (fail)
  repeat (go_quiet (fail); go_upto_region 1 with (fail))
  go_cut [14] (fun v14 wc => ∃ (kq : Nat) (x14_1 : Bool), v14 = .bool x14_1 ∧ Aside0 (spec_loGood.j0 kq a0 x14_1 = some r) ∧ Aside0 (kq ≤ k) ∧ Drawn0 w wc)
  case first =>
    have H := HC2.out
    clear HC2
    by_cases c3 : (a0.size : Int) > 16
    · rw [if_pos c3] at H
      have c3b0 : decide (16 < (a0.size : Int)) = true := decide_eq_true c3
      have c3b1 : decide (16 < a0.size) = true := decide_eq_true (by omega)
      clear c3
      (first | rw [c3b0] | (simp only [i64_w, i32_w]; rw [c3b0]) | skip)
      have H' := Aside0.mk H
      clear H
      go_wp2
      repeat (go_quiet (fail); try go_wp2)
      go_meet
      case rel => exact ⟨_, (true), (by first | rfl | (simp; done) | (simp [*]; done)), H', ⟨by first | omega | exact Nat.le_refl _⟩, by repeat (first | exact Drawn0.refl _ | apply Drawn0.step)⟩
    · rw [if_neg c3] at H
      have c3b0 : decide (16 < (a0.size : Int)) = false := decide_eq_false c3
      have c3b1 : decide (16 < a0.size) = false := decide_eq_false (by omega)
      clear c3
      (first | rw [c3b0] | (simp only [i64_w, i32_w]; rw [c3b0]) | skip)
      have H' := Aside0.mk H
      clear H
      go_wp2
      repeat (go_quiet (fail); try go_wp2)
      go_meet
      case rel => exact ⟨_, ((((a0.size : Int) % 2) != 0)), (by first | rfl | (simp; done) | (simp [*]; done)), H', ⟨by first | omega | exact Nat.le_refl _⟩, by repeat (first | exact Drawn0.refl _ | apply Drawn0.step)⟩
  case rest =>
    clear HC2
    try clear p2
    try clear c3
    try clear c3b0
    try clear c3b1
    obtain ⟨kq, x14_1, rfl, HA, HJ1, ⟨mc1, rfl⟩⟩ := hcut
    cases kq with
    | zero => exact absurd HA.out (by simp [spec_loGood.j0])
    | succ kj1 =>
      have H := HA.out
      clear HA
      simp only [spec_loGood.j0] at H
      by_cases c4 : x14_1 = true
      · subst c4
        have H1 : (some false) = some r := by rw [if_pos rfl] at H; exact H
        clear H
        have H := H1
        clear H1
        obtain rfl := Option.some.inj H
        go_wp2
        repeat (go_quiet (fail); try go_wp2)
        go_ret
        exact ⟨by first | rfl | (simp; done) | (simp [*]; done), by repeat (first | exact Drawn0.refl _ | apply Drawn0.step)⟩
      · replace c4 := Bool.eq_false_iff.mpr c4
        subst c4
        have H1 : (spec_loGood.l0 kj1 a0 0) = some r := by rw [if_neg (show ¬ (false = true) by decide)] at H; exact H
        clear H
        have H := H1
        clear H1
        have H' := Aside0.mk H
        clear H
        go_wp2
        repeat (go_quiet (fail); try go_wp2)
        go_loopg [3] kj1 (fun kq v3 w' => ∃ (x3_2 : Int), v3 = .int .i64 x3_2 ∧ Aside0 (spec_loGood.l0 kq a0 x3_2 = some r) ∧ Aside0 (kq ≤ kj1) ∧ Drawn0 w w')
        case atStart => exact ⟨(0), (by first | rfl | (simp; done) | (simp [*]; done)), H', ⟨Nat.le_refl _⟩, by repeat (first | exact Drawn0.refl _ | apply Drawn0.step)⟩
        case round =>
          clear H'
          try clear c1
          try clear p2
          try clear c3
          try clear c3b0
          try clear c3b1
          try clear c4
          try clear p2
          obtain ⟨x3_2, rfl, HA, HK2, ⟨m2, rfl⟩⟩ := hrel
          cases gk with
          | zero => exact absurd HA.out (by simp [spec_loGood.l0])
          | succ k2 =>
            have H := HA.out
            clear HA
            simp only [spec_loGood.l0] at H
            by_cases c5 : x3_2 < (a0.size : Int)
            · rw [if_pos c5] at H
              have c5b0 : decide (x3_2 < (a0.size : Int)) = true := decide_eq_true c5
              clear c5
              have H' := Aside0.mk H
              clear H
              go_wp2
              repeat (go_quiet (fail); try go_wp2)
              go_loopg [4, 5] k2 (fun kq v4 v5 w' => ∃ (x4_3 : Int) (x5_3 : Int), v4 = .int .i64 x4_3 ∧ v5 = .int .i64 x5_3 ∧ Aside0 (spec_loGood.l1 kq a0 x3_2 x4_3 x5_3 = some r) ∧ Aside0 (kq ≤ k2) ∧ Drawn0 w w')
              case atStart => exact ⟨(0), (0), (by first | rfl | (simp; done) | (simp [*]; done)), (by first | rfl | (simp; done) | (simp [*]; done)), H', ⟨Nat.le_refl _⟩, by repeat (first | exact Drawn0.refl _ | apply Drawn0.step)⟩
              case round =>
                clear H'
                try clear c1
                try clear p2
                try clear c3
                try clear c3b0
                try clear c3b1
                try clear c4
                try clear c5
                try clear c5b0
                try clear p2
                obtain ⟨x4_3, x5_3, rfl, rfl, HA, HK3, ⟨m3, rfl⟩⟩ := hrel
                cases gk with
                | zero => exact absurd HA.out (by simp [spec_loGood.l1])
                | succ k3 =>
                  have H := HA.out
                  clear HA
                  simp only [spec_loGood.l1] at H
                  by_cases c6 : x5_3 < (a0.size : Int)
                  · rw [if_pos c6] at H
                    have c6b0 : decide (x5_3 < (a0.size : Int)) = true := decide_eq_true c6
                    clear c6
                    by_cases c7 : 0 ≤ x5_3
                    · rw [if_pos c7] at H
                      have c7b0 : decide (0 ≤ x5_3) = true := decide_eq_true c7
                      clear c7
                      by_cases c9 : 0 ≤ x3_2
                      · rw [if_pos c9] at H
                        have c9b0 : decide (0 ≤ x3_2) = true := decide_eq_true c9
                        clear c9
                        by_cases c10 : x3_2 < (a0.size : Int)
                        · rw [if_pos c10] at H
                          have c10b0 : decide (x3_2 < (a0.size : Int)) = true := decide_eq_true c10
                          clear c10
                          by_cases c12 : (bt a0 x5_3) = (bt a0 x3_2)
                          · rw [if_pos c12] at H
                            have c12b0 : ((bt a0 x5_3) == (bt a0 x3_2)) = true := beq_iff_eq.mpr c12
                            have c12b1 : ((bt a0 x5_3) != (bt a0 x3_2)) = false := bne_eq_false_iff_eq.mpr c12
                            clear c12
                            have H' := Aside0.mk H
                            clear H
                            have p8 : 0 ≤ (x5_3 : Int) := of_decide_eq_true (by first | (with_reducible assumption) | assumption)
                            have q8 : x5_3 < (a0.size : Int) := of_decide_eq_true (by first | (with_reducible assumption) | assumption)
                            have hx8 := bt_at a0 x5_3
                            replace p8 := eq_true p8
                            replace q8 := eq_true q8
                            have p11 : 0 ≤ (x3_2 : Int) := of_decide_eq_true (by first | (with_reducible assumption) | assumption)
                            have q11 : x3_2 < (a0.size : Int) := of_decide_eq_true (by first | (with_reducible assumption) | assumption)
                            have hx11 := bt_at a0 x3_2
                            replace p11 := eq_true p11
                            replace q11 := eq_true q11
                            go_wp2
                            repeat (go_quiet (fail); try go_wp2)
                            go_roundg k3
                            case measure => have := HJ1.out; have := HK2.out; have := HK3.out; omega
                            case rel => exact ⟨(wrap64 (x4_3 + 1)), (wrap64 (x5_3 + 1)), (by first | rfl | (simp; done) | (simp [*]; done)), (by first | rfl | (simp; done) | (simp [*]; done)), H', ⟨by have := HJ1.out; have := HK2.out; have := HK3.out; omega⟩, by repeat (first | exact Drawn0.refl _ | apply Drawn0.step)⟩
                          · rw [if_neg c12] at H
                            have c12b0 : ((bt a0 x5_3) == (bt a0 x3_2)) = false := beq_eq_false_iff_ne.mpr c12
                            have c12b1 : ((bt a0 x5_3) != (bt a0 x3_2)) = true := bne_iff_ne.mpr c12
                            have H' := Aside0.mk H
                            clear H
                            have p8 : 0 ≤ (x5_3 : Int) := of_decide_eq_true (by first | (with_reducible assumption) | assumption)
                            have q8 : x5_3 < (a0.size : Int) := of_decide_eq_true (by first | (with_reducible assumption) | assumption)
                            have hx8 := bt_at a0 x5_3
                            replace p8 := eq_true p8
                            replace q8 := eq_true q8
                            have p11 : 0 ≤ (x3_2 : Int) := of_decide_eq_true (by first | (with_reducible assumption) | assumption)
                            have q11 : x3_2 < (a0.size : Int) := of_decide_eq_true (by first | (with_reducible assumption) | assumption)
                            have hx11 := bt_at a0 x3_2
                            replace p11 := eq_true p11
                            replace q11 := eq_true q11
                            go_wp2
                            repeat (go_quiet (fail); try go_wp2)
                            go_roundg k3
                            case measure => have := HJ1.out; have := HK2.out; have := HK3.out; omega
                            case rel => exact ⟨(x4_3), (wrap64 (x5_3 + 1)), (by first | rfl | (simp; done) | (simp [*]; done)), (by first | rfl | (simp; done) | (simp [*]; done)), H', ⟨by have := HJ1.out; have := HK2.out; have := HK3.out; omega⟩, by repeat (first | exact Drawn0.refl _ | apply Drawn0.step)⟩
                        · rw [if_neg c10] at H
                          exact absurd H (by simp)
                      · rw [if_neg c9] at H
                        exact absurd H (by simp)
                    · rw [if_neg c7] at H
                      exact absurd H (by simp)
                  · rw [if_neg c6] at H
                    have c6b0 : decide (x5_3 < (a0.size : Int)) = false := decide_eq_false c6
                    clear c6
                    by_cases c13 : x4_3 = 2
                    · rw [if_pos c13] at H
                      have c13b0 : (x4_3 == 2) = true := beq_iff_eq.mpr c13
                      have c13b1 : (x4_3 != 2) = false := bne_eq_false_iff_eq.mpr c13
                      clear c13
                      have H' := Aside0.mk H
                      clear H
                      go_wp2
                      repeat (go_quiet (fail); try go_wp2)
                      go_roundg k3
                      case measure => have := HJ1.out; have := HK2.out; have := HK3.out; omega
                      case rel => exact ⟨(wrap64 (x3_2 + 1)), (by first | rfl | (simp; done) | (simp [*]; done)), H', ⟨by have := HJ1.out; have := HK2.out; have := HK3.out; omega⟩, by repeat (first | exact Drawn0.refl _ | apply Drawn0.step)⟩
                    · rw [if_neg c13] at H
                      have c13b0 : (x4_3 == 2) = false := beq_eq_false_iff_ne.mpr c13
                      have c13b1 : (x4_3 != 2) = true := bne_iff_ne.mpr c13
                      obtain rfl := Option.some.inj H
                      go_wp2
                      repeat (go_quiet (fail); try go_wp2)
                      go_ret
                      exact ⟨by first | rfl | (simp; done) | (simp [*]; done), by repeat (first | exact Drawn0.refl _ | apply Drawn0.step)⟩
            · rw [if_neg c5] at H
              have c5b0 : decide (x3_2 < (a0.size : Int)) = false := decide_eq_false c5
              clear c5
              replace H := Option.bind_eq_some_iff.mp H
              obtain ⟨t117, A140, H⟩ := H
              replace H : (some (t117.toList == a0.toList)) = some r := H
              have A14 := Aside0.mk A140
              clear A140
              obtain rfl := Option.some.inj H
              go_wp2_with (first | (go_at_call 41; (with_reducible refine (spec_loAnew.calls k2 a0 t117 _ A14.out).mono ?_); rintro e w' ⟨rfl, ⟨nd, rfl⟩⟩; (try first | exact ⟨rfl, _, World.drewN_drewN _ _ _⟩ | exact ⟨rfl, _, Eq.trans (World.drewN_drewN _ _ _) (congrArg (World.drewN _) (Nat.add_assoc _ _ _))⟩)))
              repeat (go_quiet (first | (go_at_call 41; (with_reducible refine (spec_loAnew.calls k2 a0 t117 _ A14.out).mono ?_); rintro e w' ⟨rfl, ⟨nd, rfl⟩⟩; (try first | exact ⟨rfl, _, World.drewN_drewN _ _ _⟩ | exact ⟨rfl, _, Eq.trans (World.drewN_drewN _ _ _) (congrArg (World.drewN _) (Nat.add_assoc _ _ _))⟩))); try go_wp2_with (first | (go_at_call 41; (with_reducible refine (spec_loAnew.calls k2 a0 t117 _ A14.out).mono ?_); rintro e w' ⟨rfl, ⟨nd, rfl⟩⟩; (try first | exact ⟨rfl, _, World.drewN_drewN _ _ _⟩ | exact ⟨rfl, _, Eq.trans (World.drewN_drewN _ _ _) (congrArg (World.drewN _) (Nat.add_assoc _ _ _))⟩))))
              go_ret
              exact ⟨by first | rfl | (simp; done) | (simp [*]; done), by repeat (first | exact Drawn0.refl _ | apply Drawn0.step)⟩

end Go.Proofs.YtgdpeabbmbclbaaDoor.Pr

-- Written by a program for this claim.
namespace Go.Proofs.YtgdpeabbmbclbaaDoor.Pr
open Go.RowKit Go.Proofs.YtgdpeabbmbclbaaDoorW.PrintWords Go.Proofs.YtgdpeabbmbclbaaDoorW.PrintLast Go.Proofs.YtgdpeabbmbclbaaDoorW.PrintMore
attribute [local go_sem] max2_int min2_int max_two min_two max_three min_three max_four min_four   -- for this text's walks alone
set_option linter.unusedVariables false
set_option linter.unusedSimpArgs false

/-! ### spec_l1In: function 39 -/
def spec_l1In.f (a0 : Int) (a1 : Int) (a2 : Int) : Option (Bool) := if a0 ≥ a1 then (some (decide (a0 ≤ a2))) else (some false)
set_option maxHeartbeats 8000000 in
set_option maxRecDepth 100000 in
theorem spec_l1In.calls (a0 : Int) (a1 : Int) (a2 : Int) (r : Bool) (w : World) (h : spec_l1In.f a0 a1 a2 = some r) :
    Calls Tryd.prog 39 #[.int .i64 a0, .int .i64 a1, .int .i64 a2] w fun e w' => e = .returned (.bool r) ∧ Drawn0 w w' := by
  have H : (if a0 ≥ a1 then (some (decide (a0 ≤ a2))) else (some false)) = some r := h
  clear h
  by_cases c4 : a0 ≥ a1
  · rw [if_pos c4] at H
    have c4b0 : decide (a1 ≤ a0) = true := decide_eq_true c4
    clear c4
    obtain rfl := Option.some.inj H
    go_enter Tryd.func39, Tryd.ntmps39
    go_wp2
    go_ret
    exact ⟨by first | rfl | (simp; done) | (simp [*]; done), by repeat (first | exact Drawn0.refl _ | apply Drawn0.step)⟩
  · rw [if_neg c4] at H
    have c4b0 : decide (a1 ≤ a0) = false := decide_eq_false c4
    clear c4
    obtain rfl := Option.some.inj H
    go_enter Tryd.func39, Tryd.ntmps39
    go_wp2
    go_ret
    exact ⟨by first | rfl | (simp; done) | (simp [*]; done), by repeat (first | exact Drawn0.refl _ | apply Drawn0.step)⟩

end Go.Proofs.YtgdpeabbmbclbaaDoor.Pr

-- Written by a program for this claim.
namespace Go.Proofs.YtgdpeabbmbclbaaDoor.Pr
open Go.RowKit Go.Proofs.YtgdpeabbmbclbaaDoorW.PrintWords Go.Proofs.YtgdpeabbmbclbaaDoorW.PrintLast Go.Proofs.YtgdpeabbmbclbaaDoorW.PrintMore
attribute [local go_sem] max2_int min2_int max_two min_two max_three min_three max_four min_four   -- for this text's walks alone
set_option linter.unusedVariables false
set_option linter.unusedSimpArgs false

/-! ### spec_loLetter: function 54 -/
def spec_loLetter.f (a0 : ByteArray) (a1 : ByteArray) : Option (Bool) := if (a1.size : Int) = 1 then (if 0 < (a1.size : Int) then ((spec_l1In.f (wrap64 ((wrap64 (bt a1 0)) - 97)) 0 (wrap64 ((wrap64 ((a0.size : Int) / 2)) - 1))).bind fun t118 => (some t118)) else (none)) else (some false)
set_option maxHeartbeats 8000000 in
set_option maxRecDepth 100000 in
theorem spec_loLetter.calls (a0 : ByteArray) (a1 : ByteArray) (r : Bool) (w : World) (h : spec_loLetter.f a0 a1 = some r) :
    Calls Tryd.prog 54 #[.string a0, .string a1] w fun e w' => e = .returned (.bool r) ∧ Drawn0 w w' := by
  have H : (if (a1.size : Int) = 1 then (if 0 < (a1.size : Int) then ((spec_l1In.f (wrap64 ((wrap64 (bt a1 0)) - 97)) 0 (wrap64 ((wrap64 ((a0.size : Int) / 2)) - 1))).bind fun t118 => (some t118)) else (none)) else (some false)) = some r := h
  clear h
  by_cases c3 : (a1.size : Int) = 1
  · rw [if_pos c3] at H
    have c3b0 : ((a1.size : Int) == 1) = true := beq_iff_eq.mpr c3
    have c3b1 : ((a1.size : Int) != 1) = false := bne_eq_false_iff_eq.mpr c3
    clear c3
    by_cases c4 : 0 < (a1.size : Int)
    · rw [if_pos c4] at H
      have c4b0 : decide (0 < (a1.size : Int)) = true := decide_eq_true c4
      have c4b1 : decide (0 < a1.size) = true := decide_eq_true (by omega)
      clear c4
      replace H := Option.bind_eq_some_iff.mp H
      obtain ⟨t118, A60, H⟩ := H
      replace H : (some t118) = some r := H
      have A6 := Aside0.mk A60
      clear A60
      obtain rfl := Option.some.inj H
      have p5 : 0 ≤ (0 : Int) := (by omega)
      have q5 : 0 < a1.size := (by have : (0 : Int) < (a1.size : Int) := of_decide_eq_true (by first | (with_reducible assumption) | assumption); omega)
      have hx5 : ∀ h : 0 < a1.size, ((a1[0]'h).toNat : Int) = bt a1 0 := bt_at a1 0
      clear p5
      have qi5 : (0 < (a1.size : Int)) = True := eq_true (of_decide_eq_true (by first | (with_reducible assumption) | assumption))
      replace q5 := eq_true q5
      go_enter Tryd.func54, Tryd.ntmps54
      go_wp2_with (first | (go_at_call 39; (with_reducible refine (spec_l1In.calls (wrap64 ((wrap64 (bt a1 0)) - 97)) 0 (wrap64 ((wrap64 ((a0.size : Int) / 2)) - 1)) t118 _ A6.out).mono ?_); rintro e w' ⟨rfl, ⟨nd, rfl⟩⟩))
      go_ret
      exact ⟨by first | rfl | (simp; done) | (simp [*]; done), by repeat (first | exact Drawn0.refl _ | apply Drawn0.step)⟩
    · rw [if_neg c4] at H
      exact absurd H (by simp)
  · rw [if_neg c3] at H
    have c3b0 : ((a1.size : Int) == 1) = false := beq_eq_false_iff_ne.mpr c3
    have c3b1 : ((a1.size : Int) != 1) = true := bne_iff_ne.mpr c3
    obtain rfl := Option.some.inj H
    go_enter Tryd.func54, Tryd.ntmps54
    go_wp2
    go_ret
    exact ⟨by first | rfl | (simp; done) | (simp [*]; done), by repeat (first | exact Drawn0.refl _ | apply Drawn0.step)⟩

end Go.Proofs.YtgdpeabbmbclbaaDoor.Pr

-- Written by a program for this claim.
namespace Go.Proofs.YtgdpeabbmbclbaaDoor.Pr
open Go.RowKit Go.Proofs.YtgdpeabbmbclbaaDoorW.PrintWords Go.Proofs.YtgdpeabbmbclbaaDoorW.PrintLast Go.Proofs.YtgdpeabbmbclbaaDoorW.PrintMore
attribute [local go_sem] max2_int min2_int max_two min_two max_three min_three max_four min_four   -- for this text's walks alone
set_option linter.unusedVariables false
set_option linter.unusedSimpArgs false

/-! ### spec_DropCrossing: function 31 -/
mutual
def spec_DropCrossing.j0 : Nat → ByteArray → ByteArray → Bool → Option (ByteArray × Bool)
  | 0, _, _, _ => none
  | k + 1, x0, x1, x16 => if x16 = true then (some ((⟨#[]⟩ : ByteArray), false)) else (spec_DropCrossing.l0 k x0 x1 (⟨#[]⟩ : ByteArray) 0)
def spec_DropCrossing.l0 : Nat → ByteArray → ByteArray → ByteArray → Int → Option (ByteArray × Bool)
  | 0, _, _, _, _ => none
  | k + 1, x0, x1, x6, x7 => if x7 < (x0.size : Int) then (if 0 ≤ x7 then (if 0 < (x1.size : Int) then (if (bt x0 x7) = (bt x1 0) then (spec_DropCrossing.l0 k x0 x1 x6 (wrap64 (x7 + 1))) else (if x7 ≤ (wrap64 (x7 + 1)) then (if (wrap64 (x7 + 1)) ≤ (x0.size : Int) then (if x6.size + (x0.extract (x7 : Int).toNat ((wrap64 (x7 + 1)) : Int).toNat).size ≤ 9223372036854775807 then (spec_DropCrossing.l0 k x0 x1 (x6 ++ (x0.extract (x7 : Int).toNat ((wrap64 (x7 + 1)) : Int).toNat)) (wrap64 (x7 + 1))) else (none)) else (none)) else (none))) else (none)) else (none)) else ((spec_loAnew.f k x6).bind fun t121 => (some (t121, true)))
end
def spec_DropCrossing.f (k : Nat) (a0 : ByteArray) (a1 : ByteArray) : Option (ByteArray × Bool) := (spec_loGood.f k a0).bind fun t119 => (if t119 = true then ((spec_loLetter.f a0 a1).bind fun t120 => (spec_DropCrossing.j0 k a0 a1 (!t120))) else (spec_DropCrossing.j0 k a0 a1 true))
theorem spec_DropCrossing.mono_l : ∀ k, (∀ y0 y1 y2, LeO (spec_DropCrossing.j0 k y0 y1 y2) (spec_DropCrossing.j0 (k + 1) y0 y1 y2)) ∧ (∀ y0 y1 y2 y3, LeO (spec_DropCrossing.l0 k y0 y1 y2 y3) (spec_DropCrossing.l0 (k + 1) y0 y1 y2 y3))
  | 0 => ⟨fun _ _ _ r h => by simp [spec_DropCrossing.j0] at h, fun _ _ _ _ r h => by simp [spec_DropCrossing.l0] at h⟩
  | k + 1 => by
    obtain ⟨ih0, ih1⟩ := spec_DropCrossing.mono_l k
    refine ⟨?_, ?_⟩
    · intro y0 y1 y2
      unfold spec_DropCrossing.j0
      repeat' first
      | (with_reducible exact ih0 _ _ _)
      | (with_reducible exact ih1 _ _ _ _)
      | (with_reducible exact spec_loAnew.mono _ _)
      | (with_reducible exact spec_loGood.mono _ _)
      | (with_reducible exact LeO.refl _)
      | (with_reducible exact LeO.none _)
      | (with_reducible refine LeO.ite ?_ ?_)
      | (with_reducible refine LeO.bind ?_ (fun _ => ?_))
      | exact ih0 _ _ _
      | exact ih1 _ _ _ _
      | exact spec_loAnew.mono _ _
      | exact spec_loGood.mono _ _
      | exact LeO.none _
      | refine LeO.ite ?_ ?_
      | refine LeO.bind ?_ (fun _ => ?_)
    · intro y0 y1 y2 y3
      unfold spec_DropCrossing.l0
      repeat' first
      | (with_reducible exact ih0 _ _ _)
      | (with_reducible exact ih1 _ _ _ _)
      | (with_reducible exact spec_loAnew.mono _ _)
      | (with_reducible exact spec_loGood.mono _ _)
      | (with_reducible exact LeO.refl _)
      | (with_reducible exact LeO.none _)
      | (with_reducible refine LeO.ite ?_ ?_)
      | (with_reducible refine LeO.bind ?_ (fun _ => ?_))
      | exact ih0 _ _ _
      | exact ih1 _ _ _ _
      | exact spec_loAnew.mono _ _
      | exact spec_loGood.mono _ _
      | exact LeO.none _
      | refine LeO.ite ?_ ?_
      | refine LeO.bind ?_ (fun _ => ?_)
theorem spec_DropCrossing.mono : ∀ a0 a1 k, LeO (spec_DropCrossing.f k a0 a1) (spec_DropCrossing.f (k + 1) a0 a1) := by
  intro a0 a1 k
  obtain ⟨ih0, ih1⟩ := spec_DropCrossing.mono_l k
  unfold spec_DropCrossing.f
  repeat' first
      | (with_reducible exact ih0 _ _ _)
      | (with_reducible exact ih1 _ _ _ _)
      | (with_reducible exact spec_loAnew.mono _ _)
      | (with_reducible exact spec_loGood.mono _ _)
      | (with_reducible exact LeO.refl _)
      | (with_reducible exact LeO.none _)
      | (with_reducible refine LeO.ite ?_ ?_)
      | (with_reducible refine LeO.bind ?_ (fun _ => ?_))
      | exact ih0 _ _ _
      | exact ih1 _ _ _ _
      | exact spec_loAnew.mono _ _
      | exact spec_loGood.mono _ _
      | exact LeO.none _
      | refine LeO.ite ?_ ?_
      | refine LeO.bind ?_ (fun _ => ?_)
set_option maxHeartbeats 8000000 in
set_option maxRecDepth 100000 in
theorem spec_DropCrossing.calls (k : Nat) (a0 : ByteArray) (a1 : ByteArray) (r1 : ByteArray) (r2 : Bool) (w : World) (h : spec_DropCrossing.f k a0 a1 = some (r1, r2)) :
    Calls Tryd.prog 31 #[.string a0, .string a1] w fun e w' => e = .returned (.tuple #[.string r1, .bool r2]) ∧ Drawn0 w w' := by
  have H : ((spec_loGood.f k a0).bind fun t119 => (if t119 = true then ((spec_loLetter.f a0 a1).bind fun t120 => (spec_DropCrossing.j0 k a0 a1 (!t120))) else (spec_DropCrossing.j0 k a0 a1 true))) = some (r1, r2) := h
  clear h
  have HC3 := Aside0.mk H
  clear H
  go_enter Tryd.func31, Tryd.ntmps31
  go_upto_region 1 with (fail)
  repeat (go_quiet (fail); go_upto_region 1 with (fail))
  go_cut [16] (fun v16 wc => ∃ (kq : Nat) (x16_2 : Bool), v16 = .bool x16_2 ∧ Aside0 (spec_DropCrossing.j0 kq a0 a1 x16_2 = some (r1, r2)) ∧ Aside0 (kq ≤ k) ∧ Drawn0 w wc)
  case first =>
    have H := HC3.out
    clear HC3
    replace H := Option.bind_eq_some_iff.mp H
    obtain ⟨t119, A40, H⟩ := H
    replace H : (if t119 = true then ((spec_loLetter.f a0 a1).bind fun t120 => (spec_DropCrossing.j0 k a0 a1 (!t120))) else (spec_DropCrossing.j0 k a0 a1 true)) = some (r1, r2) := H
    have A4 := Aside0.mk A40
    clear A40
    by_cases c5 : t119 = true
    · subst c5
      have H1 : ((spec_loLetter.f a0 a1).bind fun t120 => (spec_DropCrossing.j0 k a0 a1 (!t120))) = some (r1, r2) := by rw [if_pos rfl] at H; exact H
      clear H
      have H := H1
      clear H1
      replace H := Option.bind_eq_some_iff.mp H
      obtain ⟨t120, A60, H⟩ := H
      replace H : (spec_DropCrossing.j0 k a0 a1 (!t120)) = some (r1, r2) := H
      have A6 := Aside0.mk A60
      clear A60
      have H' := Aside0.mk H
      clear H
      go_wp2_with (first | (go_at_call 33; (with_reducible refine (spec_loGood.calls k a0 true _ A4.out).mono ?_); rintro e w' ⟨rfl, ⟨nd, rfl⟩⟩; (try first | exact ⟨rfl, _, World.drewN_drewN _ _ _⟩ | exact ⟨rfl, _, Eq.trans (World.drewN_drewN _ _ _) (congrArg (World.drewN _) (Nat.add_assoc _ _ _))⟩)) | (go_at_call 54; (with_reducible refine (spec_loLetter.calls a0 a1 t120 _ A6.out).mono ?_); rintro e w' ⟨rfl, ⟨nd, rfl⟩⟩; (try first | exact ⟨rfl, _, World.drewN_drewN _ _ _⟩ | exact ⟨rfl, _, Eq.trans (World.drewN_drewN _ _ _) (congrArg (World.drewN _) (Nat.add_assoc _ _ _))⟩)))
      repeat (go_quiet (first | (go_at_call 33; (with_reducible refine (spec_loGood.calls k a0 true _ A4.out).mono ?_); rintro e w' ⟨rfl, ⟨nd, rfl⟩⟩; (try first | exact ⟨rfl, _, World.drewN_drewN _ _ _⟩ | exact ⟨rfl, _, Eq.trans (World.drewN_drewN _ _ _) (congrArg (World.drewN _) (Nat.add_assoc _ _ _))⟩)) | (go_at_call 54; (with_reducible refine (spec_loLetter.calls a0 a1 t120 _ A6.out).mono ?_); rintro e w' ⟨rfl, ⟨nd, rfl⟩⟩; (try first | exact ⟨rfl, _, World.drewN_drewN _ _ _⟩ | exact ⟨rfl, _, Eq.trans (World.drewN_drewN _ _ _) (congrArg (World.drewN _) (Nat.add_assoc _ _ _))⟩))); try go_wp2_with (first | (go_at_call 33; (with_reducible refine (spec_loGood.calls k a0 true _ A4.out).mono ?_); rintro e w' ⟨rfl, ⟨nd, rfl⟩⟩; (try first | exact ⟨rfl, _, World.drewN_drewN _ _ _⟩ | exact ⟨rfl, _, Eq.trans (World.drewN_drewN _ _ _) (congrArg (World.drewN _) (Nat.add_assoc _ _ _))⟩)) | (go_at_call 54; (with_reducible refine (spec_loLetter.calls a0 a1 t120 _ A6.out).mono ?_); rintro e w' ⟨rfl, ⟨nd, rfl⟩⟩; (try first | exact ⟨rfl, _, World.drewN_drewN _ _ _⟩ | exact ⟨rfl, _, Eq.trans (World.drewN_drewN _ _ _) (congrArg (World.drewN _) (Nat.add_assoc _ _ _))⟩))))
      go_meet
      case rel => exact ⟨_, (!t120), (by first | rfl | (simp; done) | (simp [*]; done)), H', ⟨by first | omega | exact Nat.le_refl _⟩, by repeat (first | exact Drawn0.refl _ | apply Drawn0.step)⟩
    · replace c5 := Bool.eq_false_iff.mpr c5
      subst c5
      have H1 : (spec_DropCrossing.j0 k a0 a1 true) = some (r1, r2) := by rw [if_neg (show ¬ (false = true) by decide)] at H; exact H
      clear H
      have H := H1
      clear H1
      have H' := Aside0.mk H
      clear H
      go_wp2_with (first | (go_at_call 33; (with_reducible refine (spec_loGood.calls k a0 false _ A4.out).mono ?_); rintro e w' ⟨rfl, ⟨nd, rfl⟩⟩; (try first | exact ⟨rfl, _, World.drewN_drewN _ _ _⟩ | exact ⟨rfl, _, Eq.trans (World.drewN_drewN _ _ _) (congrArg (World.drewN _) (Nat.add_assoc _ _ _))⟩)))
      repeat (go_quiet (first | (go_at_call 33; (with_reducible refine (spec_loGood.calls k a0 false _ A4.out).mono ?_); rintro e w' ⟨rfl, ⟨nd, rfl⟩⟩; (try first | exact ⟨rfl, _, World.drewN_drewN _ _ _⟩ | exact ⟨rfl, _, Eq.trans (World.drewN_drewN _ _ _) (congrArg (World.drewN _) (Nat.add_assoc _ _ _))⟩))); try go_wp2_with (first | (go_at_call 33; (with_reducible refine (spec_loGood.calls k a0 false _ A4.out).mono ?_); rintro e w' ⟨rfl, ⟨nd, rfl⟩⟩; (try first | exact ⟨rfl, _, World.drewN_drewN _ _ _⟩ | exact ⟨rfl, _, Eq.trans (World.drewN_drewN _ _ _) (congrArg (World.drewN _) (Nat.add_assoc _ _ _))⟩))))
      go_meet
      case rel => exact ⟨_, (true), (by first | rfl | (simp; done) | (simp [*]; done)), H', ⟨by first | omega | exact Nat.le_refl _⟩, by repeat (first | exact Drawn0.refl _ | apply Drawn0.step)⟩
  case rest =>
    clear HC3
    try clear p2
    try clear c3
    try clear c5
    obtain ⟨kq, x16_2, rfl, HA, HJ2, ⟨mc2, rfl⟩⟩ := hcut
    cases kq with
    | zero => exact absurd HA.out (by simp [spec_DropCrossing.j0])
    | succ kj2 =>
      have H := HA.out
      clear HA
      simp only [spec_DropCrossing.j0] at H
      by_cases c7 : x16_2 = true
      · subst c7
        have H1 : (some ((⟨#[]⟩ : ByteArray), false)) = some (r1, r2) := by rw [if_pos rfl] at H; exact H
        clear H
        have H := H1
        clear H1
        simp only [Option.some.injEq, Prod.mk.injEq] at H
        obtain ⟨rfl, rfl⟩ := H
        go_wp2
        repeat (go_quiet (fail); try go_wp2)
        go_ret2
        exact ⟨by first | rfl | (simp; done) | (simp [*]; done), by repeat (first | exact Drawn0.refl _ | apply Drawn0.step)⟩
      · replace c7 := Bool.eq_false_iff.mpr c7
        subst c7
        have H1 : (spec_DropCrossing.l0 kj2 a0 a1 (⟨#[]⟩ : ByteArray) 0) = some (r1, r2) := by rw [if_neg (show ¬ (false = true) by decide)] at H; exact H
        clear H
        have H := H1
        clear H1
        have H' := Aside0.mk H
        clear H
        go_wp2
        repeat (go_quiet (fail); try go_wp2)
        go_loopg [6, 7] kj2 (fun kq v6 v7 w' => ∃ (x6_2 : ByteArray) (x7_2 : Int), v6 = .string x6_2 ∧ v7 = .int .i64 x7_2 ∧ Aside0 (spec_DropCrossing.l0 kq a0 a1 x6_2 x7_2 = some (r1, r2)) ∧ Aside0 (kq ≤ kj2) ∧ Drawn0 w w')
        case atStart => exact ⟨((⟨#[]⟩ : ByteArray)), (0), (by first | rfl | (simp; done) | (simp [*]; done)), (by first | rfl | (simp; done) | (simp [*]; done)), H', ⟨Nat.le_refl _⟩, by repeat (first | exact Drawn0.refl _ | apply Drawn0.step)⟩
        case round =>
          clear H'
          try clear c2
          try clear p2
          try clear c3
          try clear c5
          try clear c7
          try clear p2
          obtain ⟨x6_2, x7_2, rfl, rfl, HA, HK2, ⟨m2, rfl⟩⟩ := hrel
          cases gk with
          | zero => exact absurd HA.out (by simp [spec_DropCrossing.l0])
          | succ k2 =>
            have H := HA.out
            clear HA
            simp only [spec_DropCrossing.l0] at H
            by_cases c8 : x7_2 < (a0.size : Int)
            · rw [if_pos c8] at H
              have c8b0 : decide (x7_2 < (a0.size : Int)) = true := decide_eq_true c8
              clear c8
              by_cases c9 : 0 ≤ x7_2
              · rw [if_pos c9] at H
                have c9b0 : decide (0 ≤ x7_2) = true := decide_eq_true c9
                clear c9
                by_cases c11 : 0 < (a1.size : Int)
                · rw [if_pos c11] at H
                  have c11b0 : decide (0 < (a1.size : Int)) = true := decide_eq_true c11
                  have c11b1 : decide (0 < a1.size) = true := decide_eq_true (by omega)
                  clear c11
                  by_cases c13 : (bt a0 x7_2) = (bt a1 0)
                  · rw [if_pos c13] at H
                    have c13b0 : ((bt a0 x7_2) == (bt a1 0)) = true := beq_iff_eq.mpr c13
                    have c13b1 : ((bt a0 x7_2) != (bt a1 0)) = false := bne_eq_false_iff_eq.mpr c13
                    clear c13
                    have H' := Aside0.mk H
                    clear H
                    have p10 : 0 ≤ (x7_2 : Int) := of_decide_eq_true (by first | (with_reducible assumption) | assumption)
                    have q10 : x7_2 < (a0.size : Int) := of_decide_eq_true (by first | (with_reducible assumption) | assumption)
                    have hx10 := bt_at a0 x7_2
                    replace p10 := eq_true p10
                    replace q10 := eq_true q10
                    have p12 : 0 ≤ (0 : Int) := (by omega)
                    have q12 : 0 < a1.size := (by have : (0 : Int) < (a1.size : Int) := of_decide_eq_true (by first | (with_reducible assumption) | assumption); omega)
                    have hx12 : ∀ h : 0 < a1.size, ((a1[0]'h).toNat : Int) = bt a1 0 := bt_at a1 0
                    clear p12
                    have qi12 : (0 < (a1.size : Int)) = True := eq_true (of_decide_eq_true (by first | (with_reducible assumption) | assumption))
                    replace q12 := eq_true q12
                    go_wp2
                    repeat (go_quiet (fail); try go_wp2)
                    go_roundg k2
                    case measure => have := HJ2.out; have := HK2.out; omega
                    case rel => exact ⟨(x6_2), (wrap64 (x7_2 + 1)), (by first | rfl | (simp; done) | (simp [*]; done)), (by first | rfl | (simp; done) | (simp [*]; done)), H', ⟨by have := HJ2.out; have := HK2.out; omega⟩, by repeat (first | exact Drawn0.refl _ | apply Drawn0.step)⟩
                  · rw [if_neg c13] at H
                    have c13b0 : ((bt a0 x7_2) == (bt a1 0)) = false := beq_eq_false_iff_ne.mpr c13
                    have c13b1 : ((bt a0 x7_2) != (bt a1 0)) = true := bne_iff_ne.mpr c13
                    have c14b0 := eq_true (of_decide_eq_true (by first | (with_reducible assumption) | assumption) : 0 ≤ x7_2)
                    by_cases c15 : x7_2 ≤ (wrap64 (x7_2 + 1))
                    · rw [if_pos c15] at H
                      have c15b0 := eq_true c15
                      have c15b1 : decide (x7_2 ≤ (wrap64 (x7_2 + 1))) = true := decide_eq_true c15
                      by_cases c16 : (wrap64 (x7_2 + 1)) ≤ (a0.size : Int)
                      · rw [if_pos c16] at H
                        have c16b0 := eq_true c16
                        have c16b1 : decide ((wrap64 (x7_2 + 1)) ≤ (a0.size : Int)) = true := decide_eq_true c16
                        by_cases c17 : x6_2.size + (a0.extract (x7_2 : Int).toNat ((wrap64 (x7_2 + 1)) : Int).toNat).size ≤ 9223372036854775807
                        · rw [if_pos c17] at H
                          have c17b0 := eq_true c17
                          have c17b1 : decide (x6_2.size + (a0.extract (x7_2 : Int).toNat ((wrap64 (x7_2 + 1)) : Int).toNat).size ≤ 9223372036854775807) = true := decide_eq_true c17
                          try have c17b2 : (9223372036854775807 < x6_2.size + (a0.extract (x7_2 : Int).toNat ((wrap64 (x7_2 + 1)) : Int).toNat).size) = False := eq_false (Nat.not_lt.2 c17)
                          have H' := Aside0.mk H
                          clear H
                          have p10 : 0 ≤ (x7_2 : Int) := of_decide_eq_true (by first | (with_reducible assumption) | assumption)
                          have q10 : x7_2 < (a0.size : Int) := of_decide_eq_true (by first | (with_reducible assumption) | assumption)
                          have hx10 := bt_at a0 x7_2
                          replace p10 := eq_true p10
                          replace q10 := eq_true q10
                          have p12 : 0 ≤ (0 : Int) := (by omega)
                          have q12 : 0 < a1.size := (by have : (0 : Int) < (a1.size : Int) := of_decide_eq_true (by first | (with_reducible assumption) | assumption); omega)
                          have hx12 : ∀ h : 0 < a1.size, ((a1[0]'h).toNat : Int) = bt a1 0 := bt_at a1 0
                          clear p12
                          have qi12 : (0 < (a1.size : Int)) = True := eq_true (of_decide_eq_true (by first | (with_reducible assumption) | assumption))
                          replace q12 := eq_true q12
                          go_wp2
                          repeat (go_quiet (fail); try go_wp2)
                          go_roundg k2
                          case measure => have := HJ2.out; have := HK2.out; omega
                          case rel => exact ⟨(x6_2 ++ (a0.extract (x7_2 : Int).toNat ((wrap64 (x7_2 + 1)) : Int).toNat)), (wrap64 (x7_2 + 1)), (by first | rfl | (simp; done) | (simp [*]; done)), (by first | rfl | (simp; done) | (simp [*]; done)), H', ⟨by have := HJ2.out; have := HK2.out; omega⟩, by repeat (first | exact Drawn0.refl _ | apply Drawn0.step)⟩
                        · rw [if_neg c17] at H
                          exact absurd H (by simp)
                      · rw [if_neg c16] at H
                        exact absurd H (by simp)
                    · rw [if_neg c15] at H
                      exact absurd H (by simp)
                · rw [if_neg c11] at H
                  exact absurd H (by simp)
              · rw [if_neg c9] at H
                exact absurd H (by simp)
            · rw [if_neg c8] at H
              have c8b0 : decide (x7_2 < (a0.size : Int)) = false := decide_eq_false c8
              clear c8
              replace H := Option.bind_eq_some_iff.mp H
              obtain ⟨t121, A180, H⟩ := H
              replace H : (some (t121, true)) = some (r1, r2) := H
              have A18 := Aside0.mk A180
              clear A180
              simp only [Option.some.injEq, Prod.mk.injEq] at H
              obtain ⟨rfl, rfl⟩ := H
              go_wp2_with (first | (go_at_call 41; (with_reducible refine (spec_loAnew.calls k2 x6_2 t121 _ A18.out).mono ?_); rintro e w' ⟨rfl, ⟨nd, rfl⟩⟩; (try first | exact ⟨rfl, _, World.drewN_drewN _ _ _⟩ | exact ⟨rfl, _, Eq.trans (World.drewN_drewN _ _ _) (congrArg (World.drewN _) (Nat.add_assoc _ _ _))⟩)))
              repeat (go_quiet (first | (go_at_call 41; (with_reducible refine (spec_loAnew.calls k2 x6_2 t121 _ A18.out).mono ?_); rintro e w' ⟨rfl, ⟨nd, rfl⟩⟩; (try first | exact ⟨rfl, _, World.drewN_drewN _ _ _⟩ | exact ⟨rfl, _, Eq.trans (World.drewN_drewN _ _ _) (congrArg (World.drewN _) (Nat.add_assoc _ _ _))⟩))); try go_wp2_with (first | (go_at_call 41; (with_reducible refine (spec_loAnew.calls k2 x6_2 t121 _ A18.out).mono ?_); rintro e w' ⟨rfl, ⟨nd, rfl⟩⟩; (try first | exact ⟨rfl, _, World.drewN_drewN _ _ _⟩ | exact ⟨rfl, _, Eq.trans (World.drewN_drewN _ _ _) (congrArg (World.drewN _) (Nat.add_assoc _ _ _))⟩))))
              go_ret2
              exact ⟨by first | rfl | (simp; done) | (simp [*]; done), by repeat (first | exact Drawn0.refl _ | apply Drawn0.step)⟩

end Go.Proofs.YtgdpeabbmbclbaaDoor.Pr

/- What the program's DropCrossing computes, and the law over it: where the byte library's MaxLen holds a number. -/
namespace Go.Proofs.YtgdpeabbmbclbaaDoor.Pr
open Go.RowKit Go.Proofs.YtgdpeabbmbclbaaDoorW.PrintWords Go.Proofs.YtgdpeabbmbclbaaDoorW.PrintLast Go.Proofs.YtgdpeabbmbclbaaDoorW.PrintMore
set_option linter.unusedVariables false
set_option linter.unusedSimpArgs false

/-- The byte library's MaxLen holds a number. -/
def HasMax (W : World) : Prop := ∃ m, W.cell? ⟨Tryd.m155_ren.g 1, 0, none⟩ = some (.int .i64 m)
theorem HasMax.go {W W' : World} (h : HasMax W) (hb : Below W.heap.size W W') : HasMax W' := by
  obtain ⟨m, hm⟩ := h
  exact ⟨m, (hb.cell (World.block_lt_of_cell? W _ hm)).trans hm⟩
theorem hasMax_shaped (W : World) (h : W.ShapedOpen Tryd.prog) : HasMax W := Tryd.m155.s1_3 W h
def dropS (w a : ByteArray) : ByteArray := ⟨(Lib.replaceAll w.data.toList a.data.toList []).toArray⟩
def impl_DropCrossing.f (k : Nat) (a0 a1 : ByteArray) : Option (ByteArray × Bool) :=
  (impl_isLetter.f k a0 a1).bind fun l => if l = true then (if a0.size ≤ 1000 ∧ a1.size = 1 then (impl_named.f k (dropS a0 a1)).bind fun r => some (r, true) else none) else some (⟨#[]⟩, false)
theorem impl_DropCrossing.mono : ∀ a0 a1 k, LeO (impl_DropCrossing.f k a0 a1) (impl_DropCrossing.f (k + 1) a0 a1) := by
  intro a0 a1 k
  unfold impl_DropCrossing.f
  exact LeO.bind (impl_isLetter.mono _ _ _) (fun _ => LeO.ite (LeO.ite (LeO.bind (impl_named.mono _ _) (fun _ => LeO.refl _)) (LeO.refl _)) (LeO.refl _))

set_option maxHeartbeats 1000000 in
theorem impl_DropCrossing.calls (k : Nat) (a0 a1 : ByteArray) (r1 : ByteArray) (r2 : Bool) (w : World) (hG : HasMax w) (h : impl_DropCrossing.f k a0 a1 = some (r1, r2)) :
    Calls Tryd.prog 32 #[.string a0, .string a1] w fun e w' => e = .returned (.tuple #[.string r1, .bool r2]) ∧ Below w.heap.size w w' := by
  obtain ⟨l, hl, h⟩ := Option.bind_eq_some_iff.mp h
  have HL := Aside0.mk (fun (W : World) => impl_isLetter.calls k a0 a1 l W hl)
  have HG := Aside0.mk hG
  clear hl hG
  cases l with
  | false =>
    rw [if_neg (by decide)] at h
    obtain ⟨rfl, rfl⟩ := Prod.mk.inj (Option.some.inj h)
    clear h
    go_enter Tryd.func32, Tryd.ntmps32
    go_wp2_with (go_at_call 55; refine (HL.out _).mono ?_; rintro e w1 ⟨rfl, hb⟩)
    go_ret2
    exact ⟨rfl, hb⟩
  | true =>
    rw [if_pos rfl] at h
    by_cases hs : a0.size ≤ 1000 ∧ a1.size = 1
    · rw [if_pos hs] at h
      obtain ⟨r, hr, h⟩ := Option.bind_eq_some_iff.mp h
      obtain ⟨rfl, rfl⟩ := Prod.mk.inj (Option.some.inj h)
      obtain ⟨hs0, hs1⟩ := hs
      have HN := Aside0.mk (fun (W : World) => impl_named.calls k (dropS a0 a1) r W hr)
      have HR := Aside0.mk (fun (W : World) (hW : HasMax W) => (show Calls Tryd.prog 56 #[.string a0, .string a1, .string ⟨#[]⟩] W fun e w' => e = .returned (.string (dropS a0 a1)) ∧ Below W.heap.size W w' by
        obtain ⟨m, hm⟩ := hW
        exact Tryd.replaceAll_ a0 a1 ⟨#[]⟩ m W (by omega) hm (by omega) (by have e : (⟨#[]⟩ : ByteArray).size = 0 := rfl; rw [e]; omega)))
      clear h hr
      go_enter Tryd.func32, Tryd.ntmps32
      go_wp2_with (first | (go_at_call 55; refine (HL.out _).mono ?_; rintro e w1 ⟨rfl, hb1⟩; have HB1 := Aside0.mk hb1; have HG1 := Aside0.mk (HG.out.go hb1); clear hb1) | (go_at_call 56; refine (HR.out _ HG1.out).mono ?_; rintro e w2 ⟨rfl, hb2⟩; have HB2 := Aside0.mk (HB1.out.trans (hb2.mono HB1.out.size)); clear hb2) | (go_at_call 35; refine (HN.out _).mono ?_; rintro e w3 ⟨rfl, hb3⟩))
      go_ret2
      exact ⟨rfl, HB2.out.trans (hb3.mono HB2.out.size)⟩
    · rw [if_neg hs] at h
      cases h

/-- The law where it holds. -/
def laws_FnExactDropCrossing.f (k : Nat) (a0 a1 : ByteArray) : Option Bool :=
  if 1048576 < a0.size then some true else if 1048576 < a1.size then some true else
    (spec_DropCrossing.f k a0 a1).bind fun x => (impl_DropCrossing.f k a0 a1).bind fun y => if x.1 = y.1 ∧ x.2 = y.2 then some true else none
set_option maxHeartbeats 1000000 in
theorem laws_FnExactDropCrossing.calls (k : Nat) (a0 a1 : ByteArray) (r : Bool) (w : World) (hG : HasMax w) (h : laws_FnExactDropCrossing.f k a0 a1 = some r) :
    Calls Tryd.prog 12 #[.string a0, .string a1] w fun e w' => e = .returned (.bool r) ∧ Below w.heap.size w w' := by
  unfold laws_FnExactDropCrossing.f at h
  by_cases h0 : 1048576 < a0.size
  · rw [if_pos h0] at h
    obtain rfl := Option.some.inj h
    have c1 : decide ((a0.size : Int) > 1048576) = true := decide_eq_true (by omega)
    have c2 : decide (1048576 < a0.size) = true := decide_eq_true h0
    have c3 : decide ((1048576 : Int) < (a0.size : Int)) = true := decide_eq_true (by omega)
    clear h
    go_enter Tryd.func12, Tryd.ntmps12
    go_wp2_with fail
    go_ret
    exact ⟨rfl, Below.refl _ _⟩
  · rw [if_neg h0] at h
    have c1 : decide ((a0.size : Int) > 1048576) = false := decide_eq_false (by omega)
    have c2 : decide (1048576 < a0.size) = false := decide_eq_false h0
    have c3 : decide ((1048576 : Int) < (a0.size : Int)) = false := decide_eq_false (by omega)
    by_cases h1 : 1048576 < a1.size
    · rw [if_pos h1] at h
      obtain rfl := Option.some.inj h
      have d1 : decide ((a1.size : Int) > 1048576) = true := decide_eq_true (by omega)
      have d2 : decide (1048576 < a1.size) = true := decide_eq_true h1
      have d3 : decide ((1048576 : Int) < (a1.size : Int)) = true := decide_eq_true (by omega)
      clear h
      go_enter Tryd.func12, Tryd.ntmps12
      go_wp2_with fail
      go_ret
      exact ⟨rfl, Below.refl _ _⟩
    · rw [if_neg h1] at h
      have d1 : decide ((a1.size : Int) > 1048576) = false := decide_eq_false (by omega)
      have d2 : decide (1048576 < a1.size) = false := decide_eq_false h1
      have d3 : decide ((1048576 : Int) < (a1.size : Int)) = false := decide_eq_false (by omega)
      obtain ⟨x, hx, h⟩ := Option.bind_eq_some_iff.mp h
      obtain ⟨y, hy, h⟩ := Option.bind_eq_some_iff.mp h
      by_cases he : x.1 = y.1 ∧ x.2 = y.2
      · rw [if_pos he] at h
        obtain rfl := Option.some.inj h
        obtain ⟨y1, y2⟩ := y
        obtain ⟨x1, x2⟩ := x
        obtain ⟨rfl, rfl⟩ := he
        have HS := Aside0.mk (fun (W : World) => spec_DropCrossing.calls k a0 a1 x1 x2 W hx)
        have HI := Aside0.mk (fun (W : World) (hW : HasMax W) => impl_DropCrossing.calls k a0 a1 x1 x2 W hW hy)
        have HG := Aside0.mk hG
        have e1 : (x1.toList != x1.toList) = false := by simp
        have e2 : (x2 != x2) = false := by simp
        clear h hx hy hG
        go_enter Tryd.func12, Tryd.ntmps12
        go_wp2_with (first | (go_at_call 31; refine (HS.out _).mono ?_; rintro e w1 ⟨rfl, ⟨nd, rfl⟩⟩; have HB1 := Aside0.mk (pw_below_drewN (Below.refl w.heap.size w) nd); have HG1 := Aside0.mk (HG.out.go HB1.out)) | (go_at_call 32; refine (HI.out _ HG1.out).mono ?_; rintro e w2 ⟨rfl, hb2⟩; have HB2 := Aside0.mk (HB1.out.trans (hb2.mono HB1.out.size)); clear hb2))
        go_ret
        exact ⟨by first | rfl | simp, HB2.out⟩
      · rw [if_neg he] at h
        cases h
end Go.Proofs.YtgdpeabbmbclbaaDoor.Pr

/- Loops as lists of letters: letters named anew, and what a loop is. Plain lists, no program. -/
namespace Go.Proofs.YtgdpeabbmbclbaaDoor.M
set_option linter.unusedVariables false
set_option linter.unusedSimpArgs false

/-- Letters named anew in the order in which they come; ns are those that have come. -/
def anew : List Int → List Int → List Int
  | _, [] => []
  | ns, x :: r => (97 + (ns.idxOf x : Int)) :: anew (if x ∈ ns then ns else ns ++ [x]) r
/-- Letters in the order in which they come, after ns. -/
def newN : List Int → List Int → List Int
  | ns, [] => ns
  | ns, x :: r => newN (if x ∈ ns then ns else ns ++ [x]) r
theorem anew_length : ∀ (w ns : List Int), (anew ns w).length = w.length
  | [], _ => rfl
  | x :: r, ns => by simp [anew, anew_length r]
theorem newN_length : ∀ (w ns : List Int), (newN ns w).length ≤ ns.length + w.length
  | [], _ => by simp [newN]
  | x :: r, ns => by
    unfold newN
    by_cases h : x ∈ ns
    · rw [if_pos h]
      have := newN_length r ns
      simp; omega
    · rw [if_neg h]
      have := newN_length r (ns ++ [x])
      simp at this ⊢; omega
/-- Another naming of the letters changes nothing. -/
theorem anew_map (f : Int → Int) : ∀ (w ns : List Int), (∀ x ∈ ns ++ w, ∀ y ∈ ns ++ w, f x = f y → x = y) → anew (ns.map f) (w.map f) = anew ns w
  | [], _, _ => rfl
  | x :: r, ns, h => by
    have hi : (ns.map f).idxOf (f x) = ns.idxOf x := by
      have : ∀ l : List Int, (∀ y ∈ l, f y = f x → y = x) → (l.map f).idxOf (f x) = l.idxOf x := by
        intro l
        induction l with
        | nil => intro _; rfl
        | cons y l ih =>
          intro hl
          simp only [List.map_cons, List.idxOf_cons]
          by_cases e : y = x
          · subst e; simp
          · have hne : f y ≠ f x := fun e2 => e (hl y (List.mem_cons_self ..) e2)
            rw [ih (fun z hz => hl z (List.mem_cons_of_mem _ hz)), show (f y == f x) = false by simpa using hne, show (y == x) = false by simpa using e]
      refine this ns (fun y hy e => h y (by simp [hy]) x (by simp) e)
    have hm : f x ∈ ns.map f ↔ x ∈ ns := by
      constructor
      · intro hx
        obtain ⟨y, hy, e⟩ := List.mem_map.1 hx
        have := h y (by simp [hy]) x (by simp) e
        exact this ▸ hy
      · exact fun hx => List.mem_map.2 ⟨x, hx, rfl⟩
    rw [List.map_cons, anew, anew, hi]
    congr 1
    by_cases hx : x ∈ ns
    · rw [if_pos hx, if_pos (hm.2 hx)]
      exact anew_map f r ns (fun a ha b hb => h a (by simp at ha ⊢; rcases ha with ha | ha <;> simp [ha]) b (by simp at hb ⊢; rcases hb with hb | hb <;> simp [hb]))
    · rw [if_neg hx, if_neg (fun e => hx (hm.1 e)), ← List.map_singleton (f := f), ← List.map_append]
      exact anew_map f r (ns ++ [x]) (fun a ha b hb => h a (by simpa using ha) b (by simpa using hb))

/-- A loop whose letters come in order: j have come; how many have come at the end. -/
def runL : Nat → List Int → Option Nat
  | j, [] => some j
  | j, x :: r => if 97 ≤ x ∧ x < 97 + j then runL j r else if x = 97 + j then runL (j + 1) r else none
def abcL (j : Nat) : List Int := (List.range j).map fun (i : Nat) => (97 : Int) + (i : Int)
theorem mem_abc (j : Nat) (x : Int) : x ∈ abcL j ↔ 97 ≤ x ∧ x < 97 + j := by
  simp only [abcL, List.mem_map, List.mem_range]
  constructor
  · rintro ⟨i, hi, rfl⟩; omega
  · intro h; exact ⟨(x - 97).toNat, by omega, by omega⟩
theorem abc_succ (j : Nat) : abcL j ++ [97 + (j : Int)] = abcL (j + 1) := by simp [abcL, List.range_succ]
theorem abc_length (j : Nat) : (abcL j).length = j := by simp [abcL]
theorem idx_abc : ∀ (j : Nat) (x : Int), x ∈ abcL j → 97 + ((abcL j).idxOf x : Int) = x
  | 0, x, h => by simp [abcL] at h
  | j + 1, x, h => by
    rw [← abc_succ] at h ⊢
    by_cases hx : x ∈ abcL j
    · rw [List.idxOf_append, if_pos hx]; exact idx_abc j x hx
    · have e : x = 97 + (j : Int) := by
        rcases List.mem_append.1 h with h | h
        · exact absurd h hx
        · simpa using h
      rw [List.idxOf_append, if_neg hx, abc_length, e]
      simp
theorem idx_none (l : List Int) (x : Int) (h : x ∉ l) : l.idxOf x = l.length := List.idxOf_eq_length h
theorem anew_run : ∀ (w : List Int) (j : Nat), anew (abcL j) w = w ↔ (runL j w).isSome = true
  | [], j => by simp [anew, runL]
  | x :: r, j => by
    unfold anew runL
    by_cases hx : x ∈ abcL j
    · have hx2 := (mem_abc j x).1 hx
      rw [if_pos hx, if_pos hx2, idx_abc j x hx, List.cons.injEq]
      simp [anew_run r j]
    · have hx2 : ¬ (97 ≤ x ∧ x < 97 + (j : Int)) := fun h => hx ((mem_abc j x).2 h)
      rw [if_neg hx, if_neg hx2, idx_none _ _ hx, abc_length, List.cons.injEq]
      by_cases e : x = 97 + (j : Int)
      · rw [if_pos e, e, abc_succ]
        simp [anew_run r (j + 1)]
      · rw [if_neg e]
        constructor
        · intro h; exact absurd h.1.symm e
        · intro h; simp at h
theorem run_mono : ∀ (w : List Int) (j J : Nat), runL j w = some J → j ≤ J ∧ J ≤ j + w.length
  | [], j, J, h => by simp [runL] at h; simp; omega
  | x :: r, j, J, h => by
    unfold runL at h
    split at h
    · have := run_mono r j J h; simp; omega
    · split at h
      · have := run_mono r (j + 1) J h; simp; omega
      · cases h
theorem run_mem : ∀ (w : List Int) (j J : Nat), runL j w = some J → (∀ x ∈ w, 97 ≤ x ∧ x < 97 + (J : Int)) ∧ ∀ i : Nat, j ≤ i → i < J → 97 + (i : Int) ∈ w
  | [], j, J, h => by simp [runL] at h; subst h; exact ⟨by simp, fun i h1 h2 => by omega⟩
  | x :: r, j, J, h => by
    unfold runL at h
    split at h
    · rename_i hx
      have hm := run_mono r j J h
      obtain ⟨h1, h2⟩ := run_mem r j J h
      exact ⟨fun y hy => by rcases List.mem_cons.1 hy with e | hy; (· subst e; omega); exact h1 y hy, fun i a b => List.mem_cons_of_mem _ (h2 i a b)⟩
    · split at h
      · rename_i hx e
        have hm := run_mono r (j + 1) J h
        obtain ⟨h1, h2⟩ := run_mem r (j + 1) J h
        refine ⟨fun y hy => by rcases List.mem_cons.1 hy with e | hy; (· subst e; omega); exact h1 y hy, fun i a b => ?_⟩
        by_cases ei : i = j
        · subst ei; rw [e]; exact List.mem_cons_self ..
        · exact List.mem_cons_of_mem _ (h2 i (by omega) b)
      · cases h

/-- How many letters of w are among the first J. -/
def totL (w : List Int) : Nat → Nat
  | 0 => 0
  | J + 1 => totL w J + w.count (97 + (J : Int))
theorem tot_cons (x : Int) (w : List Int) : ∀ J : Nat, totL (x :: w) J = totL w J + if 97 ≤ x ∧ x < 97 + (J : Int) then 1 else 0
  | 0 => by
    rw [if_neg (by omega)]
    rfl
  | J + 1 => by
    rw [totL, totL, tot_cons x w J, List.count_cons]
    simp only [beq_iff_eq]
    split <;> split <;> split <;> omega
theorem tot_all : ∀ (w : List Int) (J : Nat), (∀ x ∈ w, 97 ≤ x ∧ x < 97 + (J : Int)) → totL w J = w.length
  | [], J, _ => by
    induction J with
    | zero => rfl
    | succ J ih => simp [totL]; simpa using ih
  | x :: w, J, h => by
    rw [tot_cons, if_pos (h x (List.mem_cons_self ..)), tot_all w J (fun y hy => h y (List.mem_cons_of_mem _ hy))]
    rfl
theorem tot_two (w : List Int) : ∀ J : Nat, (∀ i : Nat, i < J → w.count (97 + (i : Int)) = 2) → totL w J = 2 * J
  | 0, _ => rfl
  | J + 1, h => by
    rw [totL, tot_two w J (fun i hi => h i (by omega)), h J (by omega)]
    omega

/-- A loop. -/
def goodL (w : List Int) : Bool := decide (w.length ≤ 16) && (anew [] w == w) && w.all (fun x => w.count x == 2)
/-- What a loop is: twice m letters, the first m ones, each twice. -/
structure Loop (w : List Int) (m : Nat) : Prop where
  len : w.length = 2 * m
  few : m ≤ 8
  run : runL 0 w = some m
  lo : ∀ x ∈ w, 97 ≤ x
  hi : ∀ x ∈ w, x < 97 + (m : Int)
  two : ∀ i : Nat, i < m → w.count (97 + (i : Int)) = 2
theorem loop_of {w : List Int} (h : goodL w = true) : ∃ m, Loop w m := by
  simp only [goodL, Bool.and_eq_true, decide_eq_true_eq, beq_iff_eq, List.all_eq_true] at h
  obtain ⟨⟨h1, h2⟩, h3⟩ := h
  have h4 := (anew_run w 0).1 h2
  obtain ⟨m, hm⟩ := Option.isSome_iff_exists.1 h4
  obtain ⟨h5, h6⟩ := run_mem w 0 m hm
  have h7 : ∀ i : Nat, i < m → w.count (97 + (i : Int)) = 2 := fun i hi => h3 _ (h6 i (by omega) hi)
  have h8 := tot_all w m h5
  rw [tot_two w m h7] at h8
  exact ⟨m, h8.symm, by omega, hm, fun x hx => (h5 x hx).1, fun x hx => (h5 x hx).2, h7⟩
theorem Loop.half {w : List Int} {m : Nat} (h : Loop w m) : w.length / 2 = m := by have := h.len; omega
theorem Loop.cnt {w : List Int} {m : Nat} (h : Loop w m) {x : Int} (h1 : 97 ≤ x) (h2 : x < 97 + (m : Int)) : w.count x = 2 := by
  have := h.two (x - 97).toNat (by omega)
  rwa [show (97 : Int) + ((x - 97).toNat : Int) = x by omega] at this
theorem Loop.good {w : List Int} {m : Nat} (h : Loop w m) : goodL w = true := by
  simp only [goodL, Bool.and_eq_true, decide_eq_true_eq, beq_iff_eq, List.all_eq_true]
  refine ⟨⟨by have := h.len; have := h.few; omega, (anew_run w 0).2 (by rw [h.run]; rfl)⟩, fun x hx => h.cnt (h.lo x hx) (h.hi x hx)⟩
/-- All letters are among the first eight. -/
theorem good_letters {w : List Int} (h : goodL w = true) : ∀ x ∈ w, 97 ≤ x ∧ x ≤ 104 := fun x hx => by
  obtain ⟨m, hm⟩ := loop_of h
  have := hm.lo x hx
  have := hm.hi x hx
  have := hm.few
  omega
theorem good_even {w : List Int} (h : goodL w = true) : w.length % 2 = 0 := by
  obtain ⟨m, hm⟩ := loop_of h
  have := hm.len
  omega
end Go.Proofs.YtgdpeabbmbclbaaDoor.M

/- Steps for functions with a number of rounds: what holds from some number of rounds on. -/
namespace Go.Proofs.YtgdpeabbmbclbaaDoor.M
open Go.RowKit Go.Proofs.YtgdpeabbmbclbaaDoorW.PrintWords
set_option linter.unusedVariables false
set_option linter.unusedSimpArgs false

theorem w64 {x : Int} (h0 : -9223372036854775808 ≤ x) (h1 : x ≤ 9223372036854775807) : wrap64 x = x := by
  unfold wrap64
  omega

theorem Ev.pos {α : Type} {c : Prop} [Decidable c] {A B : Nat → Option α} {r : α} (h : c) (e : Ev A r) : Ev (fun k => if c then A k else B k) r := by
  simp only [h, if_true]
  exact e
theorem Ev.neg {α : Type} {c : Prop} [Decidable c] {A B : Nat → Option α} {r : α} (h : ¬ c) (e : Ev B r) : Ev (fun k => if c then A k else B k) r := by
  simp only [h, if_false]
  exact e
theorem Ev.bindc {α β : Type} {o : Option α} {f : Nat → α → Option β} {a : α} {r : β} (h : o = some a) (e : Ev (fun k => f k a) r) : Ev (fun k => o.bind (f k)) r := by
  subst h
  exact e
theorem Ev.bindk {α β : Type} {g : Nat → Option α} {f : Nat → α → Option β} {a : α} {r : β} (h : Ev g a) (e : Ev (fun k => f k a) r) : Ev (fun k => (g k).bind (f k)) r := Ev.bind h e
theorem Ev.val {α : Type} {r r' : α} (h : r = r') : Ev (fun _ => some r) r' := by
  subst h
  exact Ev.now r
/-- Two values of one thing are one. -/
theorem Ev.uniq {α : Type} {g : Nat → Option α} {r r' : α} (h : Ev g r) (h' : Ev g r') : r = r' := by
  obtain ⟨K, h⟩ := h
  obtain ⟨K', h'⟩ := h'
  have e := (h (max K K') (Nat.le_max_left _ _)).symm.trans (h' (max K K') (Nat.le_max_right _ _))
  exact Option.some.inj e

/-- A loop over a list by its index: what is left of the list decides the answer R; P is kept. -/
theorem Ev.scan {α β γ : Type} (L : Nat → Int → β → Option γ) (xs : List α) (R : List α → β → γ) (P : Nat → β → Prop)
    (h0 : ∀ acc, P xs.length acc → Ev (fun k => L k (xs.length : Int) acc) (R [] acc))
    (h1 : ∀ (i : Nat) (h : i < xs.length) (acc : β), P i acc → (∃ acc', P (i + 1) acc' ∧ R (xs[i] :: xs.drop (i + 1)) acc = R (xs.drop (i + 1)) acc' ∧ ∀ r, Ev (fun k => L k ((i : Int) + 1) acc') r → Ev (fun k => L k (i : Int) acc) r)
      ∨ Ev (fun k => L k (i : Int) acc) (R (xs[i] :: xs.drop (i + 1)) acc)) :
    ∀ (d i : Nat) (acc : β), i + d = xs.length → P i acc → Ev (fun k => L k (i : Int) acc) (R (xs.drop i) acc) := by
  intro d
  induction d with
  | zero =>
    intro i acc hi hp
    obtain rfl : i = xs.length := by omega
    rw [List.drop_length]
    exact h0 acc hp
  | succ d ih =>
    intro i acc hi hp
    have hlt : i < xs.length := by omega
    rw [List.drop_eq_getElem_cons hlt]
    rcases h1 i hlt acc hp with ⟨acc', hp', hR, hk⟩ | h
    · rw [hR]
      refine hk _ ?_
      have e := ih (i + 1) acc' (by omega) hp'
      rw [show (((i + 1 : Nat)) : Int) = (i : Int) + 1 from by omega] at e
      exact e
    · exact h
theorem Ev.scan0 {α β γ : Type} (L : Nat → Int → β → Option γ) (xs : List α) (R : List α → β → γ) (P : Nat → β → Prop)
    (h0 : ∀ acc, P xs.length acc → Ev (fun k => L k (xs.length : Int) acc) (R [] acc))
    (h1 : ∀ (i : Nat) (h : i < xs.length) (acc : β), P i acc → (∃ acc', P (i + 1) acc' ∧ R (xs[i] :: xs.drop (i + 1)) acc = R (xs.drop (i + 1)) acc' ∧ ∀ r, Ev (fun k => L k ((i : Int) + 1) acc') r → Ev (fun k => L k (i : Int) acc) r)
      ∨ Ev (fun k => L k (i : Int) acc) (R (xs[i] :: xs.drop (i + 1)) acc)) (acc : β) (hp : P 0 acc) : Ev (fun k => L k 0 acc) (R xs acc) := by
  have e := Ev.scan L xs R P h0 h1 xs.length 0 acc (by omega) hp
  simpa using e

/-- Counting up from i to n. -/
theorem Ev.upto {β γ : Type} (L : Nat → Int → β → Option γ) (n : Int) (R : Int → β → γ) (P : Int → β → Prop)
    (h0 : ∀ i acc, n ≤ i → P i acc → Ev (fun k => L k i acc) (R i acc))
    (h1 : ∀ i acc, i < n → P i acc → (∃ acc', P (i + 1) acc' ∧ R i acc = R (i + 1) acc' ∧ ∀ r, Ev (fun k => L k (i + 1) acc') r → Ev (fun k => L k i acc) r) ∨ Ev (fun k => L k i acc) (R i acc)) :
    ∀ (d : Nat) (i : Int) (acc : β), n ≤ i + d → P i acc → Ev (fun k => L k i acc) (R i acc) := by
  intro d
  induction d with
  | zero => intro i acc hi hp; exact h0 i acc (by omega) hp
  | succ d ih =>
    intro i acc hi hp
    by_cases hlt : i < n
    · rcases h1 i acc hlt hp with ⟨acc', hp', hR, hk⟩ | h
      · rw [hR]
        exact hk _ (ih (i + 1) acc' (by omega) hp')
      · exact h
    · exact h0 i acc (by omega) hp
end Go.Proofs.YtgdpeabbmbclbaaDoor.M

/- Texts as lists of bytes. -/
namespace Go.Proofs.YtgdpeabbmbclbaaDoor.M
open Go.RowKit Go.Proofs.YtgdpeabbmbclbaaDoorW.PrintWords
set_option linter.unusedVariables false
set_option linter.unusedSimpArgs false

/-- A loop over a list inside another one: what is left of the list decides the state in which the rest goes on. -/
theorem Ev.cpsB {α β γ : Type} (L : Nat → Int → β → Option γ) (K : Nat → β → Option γ) (xs : List α) (F : List α → β → β) (P : Nat → β → Prop)
    (h0 : ∀ acc r, P xs.length acc → Ev (fun k => K k (F [] acc)) r → Ev (fun k => L k (xs.length : Int) acc) r)
    (h1 : ∀ (i : Nat) (h : i < xs.length) (acc : β), P i acc → ∃ acc', P (i + 1) acc' ∧ F (xs[i] :: xs.drop (i + 1)) acc = F (xs.drop (i + 1)) acc' ∧ ∀ r, Ev (fun k => L k ((i : Int) + 1) acc') r → Ev (fun k => L k (i : Int) acc) r) :
    ∀ (d i : Nat) (acc : β) (r : γ), i + d = xs.length → P i acc → Ev (fun k => K k (F (xs.drop i) acc)) r → Ev (fun k => L k (i : Int) acc) r := by
  intro d
  induction d with
  | zero =>
    intro i acc r hi hp hr
    obtain rfl : i = xs.length := by omega
    rw [List.drop_length] at hr
    exact h0 acc r hp hr
  | succ d ih =>
    intro i acc r hi hp hr
    have hlt : i < xs.length := by omega
    rw [List.drop_eq_getElem_cons hlt] at hr
    obtain ⟨acc', hp', hF, hk⟩ := h1 i hlt acc hp
    rw [hF] at hr
    refine hk r ?_
    have e := ih (i + 1) acc' r (by omega) hp' hr
    rw [show (((i + 1 : Nat)) : Int) = (i : Int) + 1 from by omega] at e
    exact e

theorem bytesOf_get (s : ByteArray) (i : Nat) (h : i < (bytesOf s).length) : bt s (i : Int) = (bytesOf s)[i] := by
  rw [← rd_bytesOf]
  unfold rd
  simp [List.getD_eq_getElem?_getD, List.getElem?_eq_getElem h]
theorem bytesOf_byte (s : ByteArray) : ∀ x ∈ bytesOf s, 0 ≤ x ∧ x < 256 := by
  intro x hx
  obtain ⟨b, _, rfl⟩ := List.mem_map.1 hx
  have := b.toNat_lt
  omega
theorem bytesOf_append (s t : ByteArray) : bytesOf (s ++ t) = bytesOf s ++ bytesOf t := by
  unfold bytesOf
  rw [ByteArray.data_append]
  simp
theorem bytesOf_extract (s : ByteArray) (a b : Nat) : bytesOf (s.extract a b) = ((bytesOf s).take b).drop a := by
  unfold bytesOf
  rw [ByteArray.data_extract, Array.toList_extract, List.extract_eq_take_drop, List.map_take, List.map_drop, List.drop_take]
theorem bytesOf_nil : bytesOf ⟨#[]⟩ = [] := rfl
theorem bytesOf_inj {s t : ByteArray} (h : bytesOf s = bytesOf t) : s = t := by
  have e : s.data.toList = t.data.toList := by
    refine (List.map_inj_right ?_).1 h
    intro a b hab
    exact UInt8.toNat_inj.1 (by omega)
  exact ByteArray.ext (Array.toList_inj.1 e)
theorem bytesOf_strOf (xs : List Int) (h : ∀ x ∈ xs, 0 ≤ x ∧ x < 256) : bytesOf (strOfNums xs) = xs := by
  unfold bytesOf strOfNums
  simp only [List.map_map]
  conv => rhs; rw [← List.map_id xs]
  refine List.map_congr_left fun x hx => ?_
  have := h x hx
  simp
  omega
theorem strOf_bytesOf (s : ByteArray) : strOfNums (bytesOf s) = s := bytesOf_inj (bytesOf_strOf _ (bytesOf_byte s))
theorem toList_inj {s t : ByteArray} : s.toList = t.toList ↔ s = t := by
  constructor
  · intro e
    rw [ByteArray.toList_eq, ByteArray.toList_eq] at e
    exact ByteArray.ext (Array.toList_inj.1 e)
  · rintro rfl; rfl
theorem toList_beq (s t : ByteArray) : (s.toList == t.toList) = (bytesOf s == bytesOf t) := by
  rw [Bool.eq_iff_iff, beq_iff_eq, beq_iff_eq, toList_inj]
  exact ⟨fun e => by rw [e], bytesOf_inj⟩
/-- One byte of a text, as a text. -/
theorem bytesOf_one (s : ByteArray) (i : Nat) (h : i < (bytesOf s).length) : bytesOf (s.extract i (i + 1)) = [(bytesOf s)[i]] := by
  rw [bytesOf_extract, List.take_succ_eq_append_getElem h, List.drop_append_of_le_length (by simp; omega), List.drop_of_length_le (by simp; omega)]
  rfl

/-- The place of a byte, or -1. -/
def ixL (l : List Int) (x : Int) : Int := if x ∈ l then (l.idxOf x : Int) else -1
theorem index_eq : ∀ (l : List UInt8) (x : Int), 0 ≤ x → x < 256 → Lib.indexByte l x.toNat.toUInt8 = ixL (l.map fun b => (b.toNat : Int)) x
  | [], x, _, _ => rfl
  | b :: l, x, h0, h1 => by
    have ih := index_eq l x h0 h1
    have hb := b.toNat_lt
    have e1 : (b == x.toNat.toUInt8) = ((b.toNat : Int) == x) := by
      rw [Bool.eq_iff_iff, beq_iff_eq, beq_iff_eq]
      constructor
      · rintro rfl
        simp
        omega
      · intro e
        subst e
        simp
    unfold Lib.indexByte ixL
    rw [ih, e1]
    unfold ixL
    rw [List.map_cons, List.idxOf_cons]
    by_cases e : (b.toNat : Int) = x
    · rw [if_pos (by simpa using e), if_pos (by simp [e])]
      simp [e]
    · have e2 : ((b.toNat : Int) == x) = false := by simpa using e
      rw [e2]
      simp only [Bool.false_eq_true, if_false, cond_false]
      by_cases hm : x ∈ l.map fun b => (b.toNat : Int)
      · rw [if_pos hm, if_pos (List.mem_cons_of_mem _ hm), if_neg (by simp)]
        omega
      · rw [if_neg hm, if_neg (c := x ∈ _ :: _) (by simp only [List.mem_cons, not_or]; exact ⟨fun h => e h.symm, hm⟩)]
        rfl
theorem indexB_eq (s : ByteArray) (x : Int) (h0 : 0 ≤ x) (h1 : x < 256) : Lib.indexByte s.data.toList x.toNat.toUInt8 = ixL (bytesOf s) x := index_eq _ x h0 h1
theorem count_eq (s : ByteArray) (x : Int) (h0 : 0 ≤ x) (h1 : x < 256) : s.data.toList.count x.toNat.toUInt8 = (bytesOf s).count x := by
  unfold bytesOf
  generalize s.data.toList = l
  induction l with
  | nil => rfl
  | cons b l ih =>
    have hb := b.toNat_lt
    rw [List.map_cons, List.count_cons, List.count_cons, ih]
    congr 1
    have e1 : (b == x.toNat.toUInt8) = ((b.toNat : Int) == x) := by
      rw [Bool.eq_iff_iff, beq_iff_eq, beq_iff_eq]
      constructor
      · rintro rfl
        simp
        omega
      · intro e
        subst e
        simp
    rw [e1]
end Go.Proofs.YtgdpeabbmbclbaaDoor.M

/- Letters named anew: the program's way and the reference's. -/
namespace Go.Proofs.YtgdpeabbmbclbaaDoor.M
open Go.RowKit Go.Proofs.YtgdpeabbmbclbaaDoorW.PrintWords Go.Proofs.YtgdpeabbmbclbaaDoor.Pr
set_option linter.unusedVariables false
set_option linter.unusedSimpArgs false

theorem anew_byte : ∀ (w ns : List Int), ns.length + w.length ≤ 100 → ∀ x ∈ anew ns w, 0 ≤ x ∧ x < 256
  | [], _, _, x, hx => by simp [anew] at hx
  | y :: r, ns, h, x, hx => by
    unfold anew at hx
    simp only [List.length_cons] at h
    rcases List.mem_cons.1 hx with e | hx
    · have := List.idxOf_le_length (a := y) (l := ns)
      omega
    · refine anew_byte r _ ?_ x hx
      split
      · omega
      · simp; omega
/-- A text with its letters named anew. -/
def anewS (w : ByteArray) : ByteArray := strOfNums (anew [] (bytesOf w))
theorem bytesOf_anew (w : ByteArray) (h : w.size ≤ 100) : bytesOf (anewS w) = anew [] (bytesOf w) :=
  bytesOf_strOf _ (anew_byte _ _ (by rw [bytesOf_length]; simp; omega))

theorem named_ev (w : ByteArray) (hw : w.size ≤ 100) : Ev (fun k => impl_named.f k w) (anewS w) := by
  unfold impl_named.f
  have hlen := bytesOf_length w
  have e := Ev.scan0 (fun k i (acc : ByteArray × List Int) => impl_named.l0 k w acc.1 acc.2 (w.size : Int) i) (bytesOf w) (fun rest acc => strOfNums (acc.2 ++ anew (bytesOf acc.1) rest)) (fun i acc => acc.2.length = i ∧ acc.1.size ≤ i)
    (fun acc hp => by
      refine Ev.step (fun k => by rw [impl_named.l0]) ?_
      refine Ev.neg (by omega) (Ev.val ?_)
      simp [anew])
    (fun i hi acc hp => by
      obtain ⟨p1, p2⟩ := hp
      have hi2 : i < w.size := by omega
      have hx := bytesOf_get w i hi
      have hr := bytesOf_byte w _ (List.getElem_mem hi)
      have hone := bytesOf_one w i hi
      have hs1 : (w.extract i (i + 1)).size = 1 := by rw [← bytesOf_length, hone]; rfl
      have hal := bytesOf_length acc.1
      generalize (bytesOf w)[i] = x at hx hr hone
      have hix := indexB_eq acc.1 x hr.1 hr.2
      by_cases hm : x ∈ bytesOf acc.1
      · have hlt : (bytesOf acc.1).idxOf x < (bytesOf acc.1).length := List.idxOf_lt_length_iff.2 hm
        rw [ixL, if_pos hm] at hix
        refine .inl ⟨(acc.1, acc.2 ++ [97 + ((bytesOf acc.1).idxOf x : Int)]), ⟨by simp; omega, by dsimp only; omega⟩, ?_, fun r hr2 => ?_⟩
        · rw [anew, if_pos hm]
          simp
        · refine Ev.step (fun k => by rw [impl_named.l0]) ?_
          refine Ev.pos (by omega) (Ev.pos (by omega) (Ev.pos (by omega) ?_))
          rw [hx]
          refine Ev.bindc (a := ((bytesOf acc.1).idxOf x : Int)) (by unfold strings_IndexByte.f; rw [hix]) (Ev.neg (by omega) (Ev.pos (by omega) ?_))
          rw [w64 (x := (i : Int) + 1) (by omega) (by omega)]
          have e : (97 + ((bytesOf acc.1).idxOf x : Int)) % 256 = 97 + ((bytesOf acc.1).idxOf x : Int) := by omega
          simp only [e]
          exact hr2
      · rw [ixL, if_neg hm] at hix
        have hsz : (acc.1 ++ w.extract i (i + 1)).size = acc.1.size + 1 := by rw [ByteArray.size_append, hs1]
        refine .inl ⟨(acc.1 ++ w.extract i (i + 1), acc.2 ++ [97 + ((bytesOf acc.1).idxOf x : Int)]), ⟨by simp; omega, by dsimp only; omega⟩, ?_, fun r hr2 => ?_⟩
        · rw [anew, if_neg hm]
          dsimp only
          rw [bytesOf_append, hone]
          simp
        · refine Ev.step (fun k => by rw [impl_named.l0]) ?_
          refine Ev.pos (by omega) (Ev.pos (by omega) (Ev.pos (by omega) ?_))
          rw [hx]
          refine Ev.bindc (a := (-1 : Int)) (by unfold strings_IndexByte.f; rw [hix]) (Ev.pos (by omega) ?_)
          rw [w64 (x := (i : Int) + 1) (by omega) (by omega)]
          rw [show ((i : Int) + 1).toNat = i + 1 by omega, Int.toNat_natCast]
          refine Ev.pos (by omega) (Ev.pos (by omega) (Ev.pos (by omega) (Ev.pos (by omega) ?_)))
          have hid : (bytesOf acc.1).idxOf x = acc.1.size := by rw [idx_none _ _ hm, hal]
          have e : (97 + (acc.1.size : Int)) % 256 = 97 + ((bytesOf acc.1).idxOf x : Int) := by omega
          simp only [e]
          exact hr2)
    ((⟨#[]⟩ : ByteArray), []) ⟨rfl, by simp [ByteArray.size]⟩
  exact e

abbrev abc16 : ByteArray := ⟨#[97, 98, 99, 100, 101, 102, 103, 104, 105, 106, 107, 108, 109, 110, 111, 112]⟩
theorem abc_one (a : Nat) (h : a < 16) : bytesOf (abc16.extract a (a + 1)) = [97 + (a : Int)] := by
  have hd : ∀ n : Fin 16, bytesOf (abc16.extract n.val (n.val + 1)) = [97 + (n.val : Int)] := by decide +kernel
  exact hd ⟨a, h⟩
theorem abc_size (a : Nat) (h : a < 16) : (abc16.extract a (a + 1)).size = 1 := by
  rw [← bytesOf_length, abc_one a h]; rfl

/-- The inner loop: the place of a letter among those that have come. -/
theorem anew_l1 (w names out : ByteArray) (i : Int) (x : Int) (hi0 : 0 ≤ i) (hi : i < (w.size : Int)) (hx : bt w i = x) (hn : names.size ≤ 1000) (hnd : (bytesOf names).Nodup) (r : ByteArray)
    (hr : Ev (fun k => spec_loAnew.l1 k w names out i (ixL (bytesOf names) x) (names.size : Int)) r) : Ev (fun k => spec_loAnew.l1 k w names out i (-1) 0) r := by
  have hlen := bytesOf_length names
  have e := Ev.cpsB (fun k j (at_ : Int) => spec_loAnew.l1 k w names out i at_ j) (fun k at_ => spec_loAnew.l1 k w names out i at_ ((bytesOf names).length : Int)) (bytesOf names)
    (fun rest at_ => if x ∈ rest then (((bytesOf names).length - rest.length : Nat) : Int) + (rest.idxOf x : Int) else at_) (fun _ _ => True)
    (fun at_ r _ hr => by simpa using hr)
    (fun j hj at_ _ => by
      have hgj := bytesOf_get names j hj
      have hsplit : bytesOf names = (bytesOf names).take j ++ (bytesOf names)[j] :: (bytesOf names).drop (j + 1) := by
        rw [← List.drop_eq_getElem_cons hj, List.take_append_drop]
      have hdl : ((bytesOf names).drop (j + 1)).length = (bytesOf names).length - (j + 1) := List.length_drop
      generalize hR : (bytesOf names).drop (j + 1) = rest at hsplit hdl ⊢
      generalize hy : (bytesOf names)[j] = y at hsplit hgj ⊢
      by_cases e : y = x
      · subst e
        have hnot : y ∉ rest := by
          rw [hsplit] at hnd
          have := (List.nodup_append.1 hnd).2.1
          exact (List.nodup_cons.1 this).1
        refine ⟨(j : Int), trivial, ?_, fun r hr2 => ?_⟩
        · rw [if_pos (List.mem_cons_self ..), if_neg hnot, List.idxOf_cons_self, List.length_cons, hdl]
          omega
        · refine Ev.step (fun k => by rw [spec_loAnew.l1]) ?_
          refine Ev.pos (by omega) (Ev.pos (by omega) (Ev.pos hi0 (Ev.pos hi ?_)))
          rw [w64 (x := (j : Int) + 1) (by omega) (by omega)]
          exact Ev.pos (by rw [hgj, hx]) hr2
      · refine ⟨at_, trivial, ?_, fun r hr2 => ?_⟩
        · by_cases hm : x ∈ rest
          · rw [if_pos hm, if_pos (List.mem_cons_of_mem _ hm), List.idxOf_cons, show (y == x) = false by simpa using e, cond_false, List.length_cons, hdl]
            omega
          · rw [if_neg hm, if_neg (by simp only [List.mem_cons, not_or]; exact ⟨fun h => e h.symm, hm⟩)]
        · refine Ev.step (fun k => by rw [spec_loAnew.l1]) ?_
          refine Ev.pos (by omega) (Ev.pos (by omega) (Ev.pos hi0 (Ev.pos hi ?_)))
          rw [w64 (x := (j : Int) + 1) (by omega) (by omega)]
          exact Ev.neg (by rw [hgj, hx]; exact e) hr2)
    (bytesOf names).length 0 (-1) r (by omega) trivial (by
      rw [List.drop_zero, Nat.sub_self]
      unfold ixL at hr
      rw [hlen]
      simpa using hr)
  simpa using e
theorem loAnew_ev (w : ByteArray) (hw : w.size ≤ 16) : Ev (fun k => spec_loAnew.f k w) (anewS w) := by
  unfold spec_loAnew.f
  have hlen := bytesOf_length w
  have e := Ev.scan0 (fun k i (acc : ByteArray × ByteArray) => spec_loAnew.l0 k w acc.1 acc.2 i) (bytesOf w) (fun rest acc => strOfNums (bytesOf acc.2 ++ anew (bytesOf acc.1) rest)) (fun i acc => acc.2.size = i ∧ acc.1.size ≤ i ∧ (bytesOf acc.1).Nodup)
    (fun acc hp => by
      refine Ev.step (fun k => by rw [spec_loAnew.l0]) ?_
      refine Ev.neg (by omega) (Ev.val ?_)
      rw [anew, List.append_nil, strOf_bytesOf])
    (fun i hi acc hp => by
      obtain ⟨p1, p2, p3⟩ := hp
      have hi2 : i < w.size := by omega
      have hx := bytesOf_get w i hi
      have hone := bytesOf_one w i hi
      have hs1 : (w.extract i (i + 1)).size = 1 := by rw [← bytesOf_length, hone]; rfl
      have hal := bytesOf_length acc.1
      generalize (bytesOf w)[i] = x at hx hone
      have hstep : ∀ r, Ev (fun k => spec_loAnew.l1 k w acc.1 acc.2 i (ixL (bytesOf acc.1) x) (acc.1.size : Int)) r → Ev (fun k => spec_loAnew.l0 k w acc.1 acc.2 i) r := fun r hr => by
        refine Ev.step (fun k => by rw [spec_loAnew.l0]) ?_
        exact Ev.pos (by omega) (anew_l1 w acc.1 acc.2 i x (by omega) (by omega) hx (by omega) p3 r hr)
      by_cases hm : x ∈ bytesOf acc.1
      · have hlt : (bytesOf acc.1).idxOf x < (bytesOf acc.1).length := List.idxOf_lt_length_iff.2 hm
        rw [ixL, if_pos hm] at hstep
        generalize ha : (bytesOf acc.1).idxOf x = a at hlt hstep
        have h16 : a < 16 := by omega
        have hsz : (acc.2 ++ abc16.extract a (a + 1)).size = acc.2.size + 1 := by rw [ByteArray.size_append, abc_size a h16]
        refine .inl ⟨(acc.1, acc.2 ++ abc16.extract a (a + 1)), ⟨by dsimp only; omega, by dsimp only; omega, p3⟩, ?_, fun r hr2 => hstep r ?_⟩
        · rw [anew, if_pos hm, ha]
          dsimp only
          rw [bytesOf_append, abc_one a h16]
          simp
        · refine Ev.step (fun k => by rw [spec_loAnew.l1]) ?_
          refine Ev.neg (by omega) (Ev.neg (by omega) (Ev.pos (by omega) ?_))
          rw [w64 (x := (a : Int) + 1) (by omega) (by omega), w64 (x := (i : Int) + 1) (by omega) (by omega), show ((a : Int) + 1).toNat = a + 1 by omega, Int.toNat_natCast]
          refine Ev.pos (by omega) (Ev.pos (by omega) (Ev.pos ?_ hr2))
          have h := abc_size a h16
          unfold abc16 at h
          omega
      · rw [ixL, if_neg hm] at hstep
        have h16 : acc.1.size < 16 := by omega
        have hsz : (acc.1 ++ w.extract i (i + 1)).size = acc.1.size + 1 := by rw [ByteArray.size_append, hs1]
        have hsz2 : (acc.2 ++ abc16.extract acc.1.size (acc.1.size + 1)).size = acc.2.size + 1 := by rw [ByteArray.size_append, abc_size _ h16]
        refine .inl ⟨(acc.1 ++ w.extract i (i + 1), acc.2 ++ abc16.extract acc.1.size (acc.1.size + 1)), ⟨by dsimp only; omega, by dsimp only; omega, ?_⟩, ?_, fun r hr2 => hstep r ?_⟩
        · dsimp only
          rw [bytesOf_append, hone]
          refine List.nodup_append.2 ⟨p3, by simp, fun a ha b hb => ?_⟩
          obtain rfl : b = x := by simpa using hb
          exact fun e => hm (e ▸ ha)
        · rw [anew, if_neg hm, idx_none _ _ hm, hal]
          dsimp only
          rw [bytesOf_append, bytesOf_append, hone, abc_one _ h16]
          simp
        · refine Ev.step (fun k => by rw [spec_loAnew.l1]) ?_
          refine Ev.neg (by omega) (Ev.pos (by omega) (Ev.pos (by omega) ?_))
          rw [w64 (x := (acc.1.size : Int) + 1) (by omega) (by omega), w64 (x := (i : Int) + 1) (by omega) (by omega), show ((acc.1.size : Int) + 1).toNat = acc.1.size + 1 by omega, show ((i : Int) + 1).toNat = i + 1 by omega, Int.toNat_natCast, Int.toNat_natCast]
          refine Ev.pos (by omega) (Ev.pos (by omega) (Ev.pos (by omega) (Ev.pos (by omega) (Ev.pos (by omega) (Ev.pos (by omega) (Ev.pos ?_ hr2))))))
          have h := abc_size _ h16
          unfold abc16 at h
          omega)
    ((⟨#[]⟩ : ByteArray), (⟨#[]⟩ : ByteArray)) ⟨rfl, by simp [ByteArray.size], by simp [bytesOf]⟩
  exact e
end Go.Proofs.YtgdpeabbmbclbaaDoor.M

/- What a loop is: the program and the reference tell the same. -/
namespace Go.Proofs.YtgdpeabbmbclbaaDoor.M
open Go.RowKit Go.Proofs.YtgdpeabbmbclbaaDoorW.PrintWords Go.Proofs.YtgdpeabbmbclbaaDoor.Pr
set_option linter.unusedVariables false
set_option linter.unusedSimpArgs false

/-- A text that is a loop. -/
def goodS (w : ByteArray) : Bool := goodL (bytesOf w)
theorem anew_beq (w : ByteArray) (h : w.size ≤ 16) : ((anewS w).toList == w.toList) = (anew [] (bytesOf w) == bytesOf w) := by
  rw [toList_beq, bytesOf_anew w (by omega)]
theorem dropWhile_nil {α : Type} (p : α → Bool) : ∀ l : List α, l.dropWhile p = [] ↔ ∀ x ∈ l, p x = true
  | [] => by simp
  | x :: r => by
    rw [List.dropWhile_cons]
    cases h : p x with
    | true => simp [dropWhile_nil p r, h]
    | false => simp [h]
theorem trim_nil (l cs : List UInt8) : Lib.trimS l cs = [] ↔ ∀ x ∈ l, cs.contains x = true := by
  unfold Lib.trimS Lib.trimLeftS Lib.trimRightS
  rw [dropWhile_nil]
  constructor
  · intro h
    have h2 : (l.reverse.dropWhile (cs.contains ·)) = [] ∨ (l.reverse.dropWhile (cs.contains ·)) ≠ [] := Classical.em _
    rcases h2 with h2 | h2
    · rw [dropWhile_nil] at h2
      intro x hx
      exact h2 x (List.mem_reverse.2 hx)
    · exfalso
      have h3 : cs.contains ((l.reverse.dropWhile (cs.contains ·)).head h2) = false := List.head_dropWhile_not (cs.contains ·) h2
      rw [h _ (List.mem_reverse.2 (List.head_mem h2))] at h3
      cases h3
  · intro h x hx
    rw [List.mem_reverse] at hx
    exact h x (List.mem_reverse.1 ((List.dropWhile_sublist _).mem hx))
theorem isLoop_ev (w : ByteArray) : Ev (fun k => impl_IsLoop.f k w) (goodS w) := by
  unfold impl_IsLoop.f
  by_cases h16 : w.size ≤ 16
  · refine Ev.pos h16 ?_
    have hcon : ∀ b : UInt8, ([97, 98, 99, 100, 101, 102, 103, 104] : List UInt8).contains b = true ↔ 97 ≤ (b.toNat : Int) ∧ (b.toNat : Int) ≤ 104 := by
      intro b
      simp only [List.contains_iff_mem, List.mem_cons, List.not_mem_nil, or_false]
      constructor
      · rintro (rfl | rfl | rfl | rfl | rfl | rfl | rfl | rfl) <;> decide
      · intro h
        have e : b = UInt8.ofNat b.toNat := by simp
        obtain h | h | h | h | h | h | h | h : b.toNat = 97 ∨ b.toNat = 98 ∨ b.toNat = 99 ∨ b.toNat = 100 ∨ b.toNat = 101 ∨ b.toNat = 102 ∨ b.toNat = 103 ∨ b.toNat = 104 := by omega
        all_goals (rw [h] at e; subst e; simp)
    have htr : Lib.trimS w.data.toList [97, 98, 99, 100, 101, 102, 103, 104] = [] ↔ ∀ x ∈ bytesOf w, 97 ≤ x ∧ x ≤ 104 := by
      rw [trim_nil]
      unfold bytesOf
      constructor
      · intro h x hx
        obtain ⟨b, hb, rfl⟩ := List.mem_map.1 hx
        exact (hcon b).1 (h b hb)
      · intro h b hb
        exact (hcon b).2 (h _ (List.mem_map.2 ⟨b, hb, rfl⟩))
    have hmiss : (!((bytesOf w).any (missB w))) = (bytesOf w).all (fun x => (bytesOf w).count x == 2) := by
      rw [List.not_any_eq_all_not]
      have key : ∀ x ∈ bytesOf w, (!(missB w x)) = ((bytesOf w).count x == 2) := fun x hx => by
        have := bytesOf_byte w x hx
        unfold missB
        rw [count_eq w x this.1 this.2, Bool.eq_iff_iff]
        simp
        omega
      rw [Bool.eq_iff_iff, List.all_eq_true, List.all_eq_true]
      exact ⟨fun h x hx => (key x hx) ▸ h x hx, fun h x hx => (key x hx).symm ▸ h x hx⟩
    by_cases ht : Lib.trimS w.data.toList [97, 98, 99, 100, 101, 102, 103, 104] = []
    · have hz := htr.1 ht
      refine Ev.pos ⟨ht, fun x hx => by have := hz x hx; omega⟩ (Ev.bindk (named_ev w (by omega)) ?_)
      have hb := bytesOf_length w
      by_cases e : anewS w = w
      · refine Ev.pos e (Ev.val ?_)
        have e2 : anew [] (bytesOf w) = bytesOf w := by rw [← bytesOf_anew w (by omega), e]
        rw [hmiss]
        unfold goodS goodL
        rw [e2]
        simp [hb, h16]
      · refine Ev.neg e (Ev.val ?_)
        have e2 : anew [] (bytesOf w) ≠ bytesOf w := fun h => e (bytesOf_inj (by rw [bytesOf_anew w (by omega), h]))
        unfold goodS goodL
        rw [show (anew [] (bytesOf w) == bytesOf w) = false by simpa using e2]
        simp
    · refine Ev.neg (fun h => ht h.1) (Ev.neg ht (Ev.val ?_))
      have hg : goodS w = false := by
        cases hg : goodS w with
        | false => rfl
        | true => exact absurd (htr.2 (good_letters hg)) ht
      exact hg.symm
  · refine Ev.neg h16 (Ev.val ?_)
    unfold goodS goodL
    rw [decide_eq_false (by rw [bytesOf_length]; exact h16)]
    rfl

theorem good_l1 (w : ByteArray) (i : Int) (x : Int) (hi0 : 0 ≤ i) (hi : i < (w.size : Int)) (hx : bt w i = x) (hw : w.size ≤ 1000) (r : Bool)
    (hr : Ev (fun k => spec_loGood.l1 k w i (((bytesOf w).count x : Nat) : Int) (w.size : Int)) r) : Ev (fun k => spec_loGood.l1 k w i 0 0) r := by
  have hlen := bytesOf_length w
  have hcl : (bytesOf w).count x ≤ (bytesOf w).length := List.count_le_length
  have e := Ev.cpsB (fun k j (t : Int) => spec_loGood.l1 k w i t j) (fun k t => spec_loGood.l1 k w i t ((bytesOf w).length : Int)) (bytesOf w)
    (fun rest t => t + ((rest.count x : Nat) : Int)) (fun j t => 0 ≤ t ∧ t ≤ j)
    (fun t r _ hr => by simpa using hr)
    (fun j hj t hp => by
      have hgj := bytesOf_get w j hj
      generalize (bytesOf w)[j] = y at hgj ⊢
      by_cases e : y = x
      · refine ⟨t + 1, by omega, ?_, fun r hr2 => ?_⟩
        · subst e
          rw [List.count_cons_self]
          omega
        · refine Ev.step (fun k => by rw [spec_loGood.l1]) ?_
          refine Ev.pos (by omega) (Ev.pos (by omega) (Ev.pos hi0 (Ev.pos hi ?_)))
          rw [w64 (x := (j : Int) + 1) (by omega) (by omega), w64 (x := t + 1) (by omega) (by omega)]
          exact Ev.pos (by rw [hgj, hx]; exact e) hr2
      · refine ⟨t, by omega, ?_, fun r hr2 => ?_⟩
        · rw [List.count_cons, if_neg (by simpa using e)]
          omega
        · refine Ev.step (fun k => by rw [spec_loGood.l1]) ?_
          refine Ev.pos (by omega) (Ev.pos (by omega) (Ev.pos hi0 (Ev.pos hi ?_)))
          rw [w64 (x := (j : Int) + 1) (by omega) (by omega)]
          exact Ev.neg (by rw [hgj, hx]; exact e) hr2)
    (bytesOf w).length 0 0 r (by omega) (by omega) (by
      rw [List.drop_zero, hlen]
      simpa using hr)
  simpa using e
theorem loGood_l0 (w : ByteArray) (h16 : w.size ≤ 16) : Ev (fun k => spec_loGood.l0 k w 0) ((bytesOf w).all (fun x => (bytesOf w).count x == 2) && (anew [] (bytesOf w) == bytesOf w)) := by
  have hlen := bytesOf_length w
  exact Ev.scan0 (fun k i (_ : Unit) => spec_loGood.l0 k w i) (bytesOf w) (fun rest _ => rest.all (fun x => (bytesOf w).count x == 2) && (anew [] (bytesOf w) == bytesOf w)) (fun _ _ => True)
    (fun _ _ => by
      refine Ev.step (fun k => by rw [spec_loGood.l0]) ?_
      refine Ev.neg (by omega) (Ev.bindk (loAnew_ev w h16) (Ev.val ?_))
      rw [anew_beq w h16]
      rfl)
    (fun i hi _ _ => by
      have hx := bytesOf_get w i hi
      generalize (bytesOf w)[i] = x at hx ⊢
      have hstep : ∀ r, Ev (fun k => spec_loGood.l1 k w i (((bytesOf w).count x : Nat) : Int) (w.size : Int)) r → Ev (fun k => spec_loGood.l0 k w i) r := fun r hr => by
        refine Ev.step (fun k => by rw [spec_loGood.l0]) ?_
        exact Ev.pos (by omega) (good_l1 w i x (by omega) (by omega) hx (by omega) r hr)
      rw [List.all_cons]
      by_cases hc : (bytesOf w).count x = 2
      · refine .inl ⟨(), trivial, by rw [hc]; rfl, fun r hr => hstep r ?_⟩
        refine Ev.step (fun k => by rw [spec_loGood.l1]) ?_
        refine Ev.neg (by omega) (Ev.pos (by omega) ?_)
        rw [w64 (x := (i : Int) + 1) (by omega) (by omega)]
        exact hr
      · refine .inr (hstep _ ?_)
        refine Ev.step (fun k => by rw [spec_loGood.l1]) ?_
        refine Ev.neg (by omega) (Ev.neg (by omega) (Ev.val ?_))
        rw [show ((bytesOf w).count x == 2) = false by simpa using hc]
        rfl)
    () trivial
theorem loGood_ev (w : ByteArray) : Ev (fun k => spec_loGood.f k w) (goodS w) := by
  unfold spec_loGood.f
  have hlen := bytesOf_length w
  by_cases h16 : w.size ≤ 16
  · refine Ev.neg (by omega) ?_
    refine Ev.step (fun k => by rw [spec_loGood.j0]) ?_
    by_cases he : w.size % 2 = 0
    · refine Ev.neg (by simp; omega) ?_
      have e := loGood_l0 w h16
      have e2 : goodS w = ((bytesOf w).all (fun x => (bytesOf w).count x == 2) && (anew [] (bytesOf w) == bytesOf w)) := by
        unfold goodS goodL
        rw [decide_eq_true (by omega), Bool.true_and, Bool.and_comm]
      rw [e2]
      exact e
    · refine Ev.pos (by simp; omega) (Ev.val ?_)
      cases hg : goodS w with
      | false => rfl
      | true => have := good_even hg; omega
  · refine Ev.pos (by omega) ?_
    refine Ev.step (fun k => by rw [spec_loGood.j0]) ?_
    refine Ev.pos rfl (Ev.val ?_)
    unfold goodS goodL
    rw [decide_eq_false (by rw [bytesOf_length]; exact h16)]
    rfl
theorem good_size {w : ByteArray} (h : goodS w = true) : w.size ≤ 16 := by
  have := bytesOf_length w
  unfold goodS goodL at h
  simp only [Bool.and_eq_true, decide_eq_true_eq] at h
  omega
end Go.Proofs.YtgdpeabbmbclbaaDoor.M

/- A letter of a loop: the program's test and the reference's. -/
namespace Go.Proofs.YtgdpeabbmbclbaaDoor.M
open Go.RowKit Go.Proofs.YtgdpeabbmbclbaaDoorW.PrintWords Go.Proofs.YtgdpeabbmbclbaaDoor.Pr
set_option linter.unusedVariables false
set_option linter.unusedSimpArgs false

theorem head_byte (s : ByteArray) (x : Int) (h : bytesOf s = [x]) : s.data.toList.length = 1 ∧ s.data.toList.headD 0 = x.toNat.toUInt8 := by
  unfold bytesOf at h
  match hl : s.data.toList, h with
  | [b], h =>
    simp at h
    subst h
    simp
/-- Whether a text is a letter of a loop. -/
def letB (w a : ByteArray) : Bool := decide (a.size = 1) && decide (97 ≤ bt a 0 ∧ bt a 0 < 97 + ((w.size / 2 : Nat) : Int))
theorem one_bytes {a : ByteArray} (h : a.size = 1) : bytesOf a = [bt a 0] := by
  have hl := bytesOf_length a
  have e := bytesOf_get a 0 (by omega)
  match hb : bytesOf a, hl with
  | [x], _ =>
    simp only [hb] at e
    rw [show ((0 : Nat) : Int) = 0 from rfl] at e
    rw [e]
    rfl
  | [], hl => simp at hl; omega
  | x :: y :: r, hl => simp at hl; omega
theorem isLetter_ev (w a : ByteArray) : Ev (fun k => impl_isLetter.f k w a) (goodS w && letB w a) := by
  unfold impl_isLetter.f
  refine Ev.bindk (isLoop_ev w) ?_
  by_cases hg : goodS w = true
  · refine Ev.pos hg ?_
    rw [hg, Bool.true_and]
    by_cases h1 : a.size = 1
    · refine Ev.pos (by omega) ?_
      have hb := one_bytes h1
      have hh := head_byte a _ hb
      have hr := bt_range a 0
      obtain ⟨m, hm⟩ := loop_of hg
      have hl := bytesOf_length w
      have hlen := hm.len
      refine Ev.bindc (a := letB w a) ?_ (Ev.val rfl)
      unfold strings_Contains.f
      rw [if_pos hh.1, hh.2, indexB_eq w _ (by omega) (by omega)]
      congr 1
      unfold letB ixL
      rw [decide_eq_true h1, Bool.true_and, Bool.eq_iff_iff, decide_eq_true_eq, decide_eq_true_eq, show w.size / 2 = m by omega]
      constructor
      · intro h
        have hx : bt a 0 ∈ bytesOf w := by
          by_cases hx : bt a 0 ∈ bytesOf w
          · exact hx
          · rw [if_neg hx] at h; omega
        exact ⟨hm.lo _ hx, hm.hi _ hx⟩
      · intro h
        have hc := hm.cnt h.1 h.2
        rw [if_pos (List.count_pos_iff.1 (by omega))]
        omega
    · refine Ev.neg (by omega) (Ev.val ?_)
      unfold letB
      rw [decide_eq_false h1]
      rfl
  · refine Ev.neg hg (Ev.val ?_)
    cases h : goodS w with
    | true => exact absurd h hg
    | false => rfl
theorem l1In_at (n lo hi : Int) : spec_l1In.f n lo hi = some (decide (lo ≤ n ∧ n ≤ hi)) := by
  unfold spec_l1In.f
  by_cases h : n ≥ lo
  · rw [if_pos h]; congr 1; rw [Bool.eq_iff_iff]; simp; omega
  · rw [if_neg h]; congr 1; rw [Bool.eq_iff_iff]; simp; omega
theorem loLetter_eq (w a : ByteArray) (hw : w.size ≤ 16) : spec_loLetter.f w a = some (letB w a) := by
  unfold spec_loLetter.f letB
  by_cases h1 : a.size = 1
  · have hr := bt_range a 0
    rw [if_pos (by omega), if_pos (by omega), w64 (x := bt a 0) (by omega) (by omega), w64 (x := bt a 0 - 97) (by omega) (by omega), w64 (x := (w.size : Int) / 2) (by omega) (by omega), w64 (x := (w.size : Int) / 2 - 1) (by omega) (by omega), l1In_at, Option.bind_some]
    congr 1
    rw [decide_eq_true h1, Bool.true_and, Bool.eq_iff_iff, decide_eq_true_eq, decide_eq_true_eq]
    omega
  · rw [if_neg (by omega), decide_eq_false h1]
    rfl

end Go.Proofs.YtgdpeabbmbclbaaDoor.M

/- DropCrossing: the plain law. -/
namespace Go.Proofs.YtgdpeabbmbclbaaDoor.Pure
open Go.RowKit Go.Proofs.YtgdpeabbmbclbaaDoor.Pr Go.Proofs.YtgdpeabbmbclbaaDoorW.PrintWords Go.Proofs.YtgdpeabbmbclbaaDoorW.PrintLast Go.Proofs.YtgdpeabbmbclbaaDoor.M
set_option linter.unusedVariables false

theorem index_one (x : UInt8) : ∀ (p q : List UInt8), x ∉ p → Lib.index (p ++ x :: q) [x] = (p.length : Int)
  | [], q, _ => by simp [Lib.index]
  | b :: p, q, h => by
    have hb : (x == b) = false := by
      cases e : x == b with
      | false => rfl
      | true => exact absurd (List.mem_cons.2 (.inl (beq_iff_eq.1 e))) h
    have ih := index_one x p q (fun e => h (List.mem_cons_of_mem _ e))
    rw [List.cons_append, Lib.index, ih]
    have hne : ((p.length : Int) == -1) = false := beq_eq_false_iff_ne.2 (by omega)
    simp [List.isPrefixOf, hb, hne]
theorem index_none (x : UInt8) : ∀ (s : List UInt8), x ∉ s → Lib.index s [x] = -1
  | [], _ => by simp [Lib.index]
  | b :: s, h => by
    have hb : (x == b) = false := by
      cases e : x == b with
      | false => rfl
      | true => exact absurd (List.mem_cons.2 (.inl (beq_iff_eq.1 e))) h
    rw [Lib.index, index_none x s (fun e => h (List.mem_cons_of_mem _ e))]
    simp [List.isPrefixOf, hb]
theorem filter_none (x : UInt8) (s : List UInt8) (h : x ∉ s) : s.filter (fun b => b != x) = s := List.filter_eq_self.2 (fun b hb => bne_iff_ne.2 (fun e => h (e ▸ hb)))
theorem replaceK_one (x : UInt8) : ∀ (k : Nat) (s : List UInt8), s.count x ≤ k → Lib.replaceK [x] [] k s = s.filter (fun b => b != x)
  | 0, s, h => by
    rw [Lib.replaceK, filter_none x s (List.count_eq_zero.1 (by omega))]
  | k + 1, s, h => by
    by_cases hm : x ∈ s
    · have hp : ∃ p q, s = p ++ x :: q ∧ x ∉ p := by
        induction s with
        | nil => simp at hm
        | cons b s ih =>
          by_cases e : b = x
          · subst e
            exact ⟨[], s, rfl, by simp⟩
          · have hm2 : x ∈ s := by
              rcases List.mem_cons.1 hm with e2 | e2
              · exact absurd e2.symm e
              · exact e2
            have hc : (b :: s).count x = s.count x := List.count_cons_of_ne (by simpa using e)
            obtain ⟨p, q, e1, e2⟩ := ih (by omega) hm2
            exact ⟨b :: p, q, by rw [e1]; rfl, by simp [e2, Ne.symm e]⟩
      obtain ⟨p, q, rfl, hnp⟩ := hp
      rw [List.count_append, List.count_cons_self] at h
      rw [Lib.replaceK_hit [x] [] k _ p.length (index_one x p q hnp), List.take_left, show p.length + ([x] : List UInt8).length = (p ++ [x]).length by simp, show p ++ x :: q = (p ++ [x]) ++ q by simp, List.drop_left, replaceK_one x k q (by omega)]
      simp [filter_none x p hnp]
    · rw [Lib.replaceK, index_none x s hm]
      simp [filter_none x s hm]
theorem dropS_eq (w a : ByteArray) (x : Int) (h : bytesOf a = [x]) : bytesOf (dropS w a) = (bytesOf w).filter (fun y => y != x) := by
  have ha : a.data.toList = [x.toNat.toUInt8] := by
    have h2 := h
    unfold bytesOf at h2
    match hl : a.data.toList, h2 with
    | [b], h2 =>
      simp only [List.map_cons, List.map_nil, List.cons.injEq, and_true] at h2
      rw [← h2]
      simp
    | [], h2 => simp at h2
    | b :: c :: t, h2 => simp at h2
  have hx := bytesOf_byte a x (by rw [h]; simp)
  have hr : Lib.replaceAll w.data.toList a.data.toList [] = w.data.toList.filter (fun b => b != x.toNat.toUInt8) := by
    rw [ha]
    unfold Lib.replaceAll Lib.replace Lib.replaceNum
    rw [if_neg (by simp), if_pos (.inl (by decide)), Lib.count_one]
    exact replaceK_one _ _ _ (Nat.le_refl _)
  unfold dropS
  rw [hr]
  unfold bytesOf
  simp only [List.filter_map]
  congr 1
  refine List.filter_congr fun b _ => ?_
  have hb := b.toNat_lt
  rw [Bool.eq_iff_iff]
  simp only [bne_iff_ne, ne_eq, Function.comp]
  constructor
  · intro hne e
    apply hne
    rw [← e]
    simp
  · intro hne e
    apply hne
    rw [e]
    simp
    omega
theorem drop_l0 (w a : ByteArray) (x : Int) (h : bytesOf a = [x]) (hw : w.size ≤ 16) : ∀ (d i : Nat) (out : ByteArray), i + d = w.size → out.size ≤ i → Ev (fun k => spec_DropCrossing.l0 k w a out (i : Int)) (anewS (strOfNums (bytesOf out ++ ((bytesOf w).drop i).filter (fun y => y != x))), true)
  | 0, i, out, hd, ho => by
    have hl := bytesOf_length w
    refine Ev.step (fun k => by rw [spec_DropCrossing.l0]) ?_
    rw [List.drop_of_length_le (by omega), List.filter_nil, List.append_nil, strOf_bytesOf]
    exact Ev.neg (by omega) (Ev.bindk (loAnew_ev out (by omega)) (Ev.val rfl))
  | d + 1, i, out, hd, ho => by
    have hl := bytesOf_length w
    have hi : i < (bytesOf w).length := by omega
    have hla := bytesOf_length a
    rw [h] at hla
    have hgx : bt a 0 = x := by
      have e := bytesOf_get a 0 (by rw [h]; simp)
      simp only [h] at e
      exact e
    have hgi := bytesOf_get w i hi
    have hone := bytesOf_one w i hi
    have hes : (w.extract i (i + 1)).size = 1 := by rw [← bytesOf_length, hone]; rfl
    refine Ev.step (fun k => by rw [spec_DropCrossing.l0]) ?_
    rw [w64 (x := (i : Int) + 1) (by omega) (by omega), hgi, hgx, List.drop_eq_getElem_cons hi, Int.toNat_natCast, show ((i : Int) + 1).toNat = i + 1 by omega]
    have ih := fun out' => drop_l0 w a x h hw d (i + 1) out' (by omega)
    rw [show (((i + 1 : Nat)) : Int) = (i : Int) + 1 by omega] at ih
    refine Ev.pos (by omega) (Ev.pos (by omega) (Ev.pos (by simp at hla; omega) ?_))
    by_cases e : (bytesOf w)[i] = x
    · rw [List.filter_cons_of_neg (by simpa using e)]
      exact Ev.pos e (ih out (by omega))
    · rw [List.filter_cons_of_pos (by simpa using e)]
      refine Ev.neg e (Ev.pos (by omega) (Ev.pos (by omega) (Ev.pos (by omega) ?_)))
      have e2 := ih (out ++ w.extract i (i + 1)) (by rw [ByteArray.size_append, hes]; omega)
      rw [bytesOf_append, hone, List.append_assoc] at e2
      exact e2
def dropR (w a : ByteArray) : ByteArray × Bool := if goodS w = true ∧ letB w a = true then (anewS (dropS w a), true) else (⟨#[]⟩, false)
theorem FnExactDropCrossing : ∀ (a0 : ByteArray) (a1 : ByteArray), a0.size ≤ 140737488351232 → a1.size ≤ 140737488351232 → ∃ k, laws_FnExactDropCrossing.f k a0 a1 = some true := by
  intro w a _ _
  refine Ev.rounds ?_
  unfold laws_FnExactDropCrossing.f
  by_cases hb : 1048576 < w.size
  · exact Ev.pos hb (Ev.val rfl)
  · refine Ev.neg hb ?_
    by_cases hb2 : 1048576 < a.size
    · exact Ev.pos hb2 (Ev.val rfl)
    · refine Ev.neg hb2 ?_
      have hs : Ev (fun k => spec_DropCrossing.f k w a) (dropR w a) := by
        unfold spec_DropCrossing.f dropR
        refine Ev.bindk (loGood_ev w) ?_
        by_cases h : goodS w = true
        · have h16 := good_size h
          refine Ev.pos h (Ev.bindc (loLetter_eq w a h16) (Ev.step (fun k => by rw [spec_DropCrossing.j0]) ?_))
          by_cases h2 : letB w a = true
          · rw [if_pos ⟨h, h2⟩]
            have hsz : a.size = 1 := by
              unfold letB at h2
              simp only [Bool.and_eq_true, decide_eq_true_eq] at h2
              exact h2.1
            have hone := one_bytes hsz
            refine Ev.neg (by rw [h2]; simp) ?_
            have e := drop_l0 w a (bt a 0) hone h16 w.size 0 ⟨#[]⟩ (by omega) (by simp [ByteArray.size])
            rw [List.drop_zero, bytesOf_nil, List.nil_append, ← dropS_eq w a (bt a 0) hone, strOf_bytesOf] at e
            exact e
          · rw [if_neg (fun e => h2 e.2)]
            refine Ev.pos ?_ (Ev.val rfl)
            cases h3 : letB w a with
            | true => exact absurd h3 h2
            | false => rfl
        · rw [if_neg (fun e => h e.1)]
          exact Ev.neg h (Ev.step (fun k => by rw [spec_DropCrossing.j0]) (Ev.pos rfl (Ev.val rfl)))
      have hi : Ev (fun k => impl_DropCrossing.f k w a) (dropR w a) := by
        unfold impl_DropCrossing.f dropR
        refine Ev.bindk (isLetter_ev w a) ?_
        by_cases h : goodS w = true ∧ letB w a = true
        · have h16 := good_size h.1
          have hsz : a.size = 1 := by
            have h2 := h.2
            unfold letB at h2
            simp only [Bool.and_eq_true, decide_eq_true_eq] at h2
            exact h2.1
          have hds : (dropS w a).size ≤ 16 := by
            rw [← bytesOf_length, dropS_eq w a (bt a 0) (one_bytes hsz)]
            have := List.length_filter_le (fun y => y != bt a 0) (bytesOf w)
            have := bytesOf_length w
            omega
          rw [if_pos h]
          exact Ev.pos (by rw [h.1, h.2]; rfl) (Ev.pos ⟨by omega, hsz⟩ (Ev.bindk (named_ev _ (by omega)) (Ev.val rfl)))
        · rw [if_neg h]
          refine Ev.neg ?_ (Ev.val rfl)
          intro e
          rw [Bool.and_eq_true] at e
          exact h e
      exact Ev.bindk hs (Ev.bindk hi (Ev.pos ⟨rfl, rfl⟩ (Ev.val rfl)))
end Go.Proofs.YtgdpeabbmbclbaaDoor.Pure

/- Shared steps of the rows: an argument that is a slice of structs of whole numbers, read as a list of lists of numbers. -/
namespace Go.Proofs.YtgdpeabbmbclbaaDoor.RowA
open Go.ChangeShapes Go.WideShapes Go.Deep Go.RowKit Go.Proofs.YtgdpeabbmbclbaaDoorW.PrintWords
section
variable {H : Type} {enc : TypeId × Value → H} {P : Program} {w : World} {base : Nat} {spare : Nat → Bool} {held : Bool}

/-- A slice of structs whose fields are one cell each: nil, or an address with, for each element and each field, the cell and the field's own reading. -/
theorem open_cells {t e : TypeId} {fs : Array Field} {fuel : Nat} {cs : List Value} {x : DataW H × List MemPlace} (ht : P.underlying t = some (.slice e)) (he : P.underlying e = some (.struct fs))
    (hone : oneCellFields P fs = true) (hC : P.cellsOf e = fs.size) (h : DataW.trod enc P w base spare held fuel t cs = some x) :
    cs = [.slice none 0 0] ∨
    ∃ (a : Addr) (len cap : Nat), cs = [.slice (some a) len cap] ∧ len ≤ cap ∧ cap ≤ maxLen ∧
      ∀ i, i < len → ∃ n, ∀ (j : Nat) (f : Field), fs[j]? = some f → ∃ (v : Value) (y : DataW H × List MemPlace), w.cell? (a.add (i * fs.size + j)) = some v ∧ DataW.trod enc P w base spare held n f.type [v] = some y := by
  rcases open_slice ht h with h0 | ⟨a, len, cap, m, n, D, Pl, hcs, hb, hl, hm, hmm, hx, hi⟩
  · exact .inl h0.1
  · refine .inr ⟨a, len, cap, hcs, hl, hm, fun i hil => ?_⟩
    have him : i < m := by
      rw [hmm]
      split
      · omega
      · exact hil
    obtain ⟨cs', hc, ht'⟩ := hi i him
    rw [hC] at hc
    obtain ⟨ys, n', hn', hy, hlen, hyl, hf⟩ := DataW.trod_struct he ht'
    obtain ⟨_, hcl, hat⟩ := World.cells?_some hc
    refine ⟨n', fun j f hj => ?_⟩
    obtain ⟨ho, hk⟩ := hone_of hone j f hj
    have hjl : j < fs.size := (Array.getElem?_eq_some_iff.1 hj).1
    have hcell := hat j hjl
    have hv : cs'[j]? = some (cs'[j]'(by omega)) := List.getElem?_eq_getElem (by omega)
    have h1 := hf j f hj
    rw [ho, hk] at h1
    have hone' : (cs'.drop j).take 1 = [cs'[j]'(by omega)] := by
      rw [List.drop_eq_getElem_cons (by omega)]
      rfl
    rw [hone'] at h1
    have hys : ys[j]? = some (ys[j]'(by omega)) := List.getElem?_eq_getElem (by omega)
    refine ⟨_, _, ?_, h1.trans hys⟩
    rw [← Go.Deep.add_add, hcell, hv]

/-- One whole number's reading. -/
theorem read_i64 {t : TypeId} {n : Nat} {v : Value} {y : DataW H × List MemPlace} (hu : P.underlying t = some (.int .i64)) (h : DataW.trod enc P w base spare held n t [v] = some y) :
    ∃ z : Int, v = .int .i64 z ∧ (Lit.int .i64 z).wf = true := by
  obtain ⟨z, hz, _, hw⟩ := DataW.trod_int hu h
  simp at hz
  exact ⟨z, hz, hw⟩

/-- A slice of structs of m whole numbers, as it is handed over: the numbers by element and field. -/
theorem open_nums {t e : TypeId} {fs : Array Field} {a : Option Addr} {len cap : Nat} {d : DataW H} {ps : List MemPlace} (ht : P.underlying t = some (.slice e)) (he : P.underlying e = some (.struct fs))
    (hone : oneCellFields P fs = true) (hC : P.cellsOf e = fs.size) (hi : ∀ (j : Nat) (f : Field), fs[j]? = some f → P.underlying f.type = some (.int .i64))
    (h : DataW.Trod enc P w base spare held t (.slice a len cap) d ps) :
    len ≤ cap ∧ len ≤ maxLen ∧ ∃ z : Nat → Nat → Int, (∀ i j, i < len → j < fs.size → (Lit.int .i64 (z i j)).wf = true) ∧
      (0 < len → ∃ ad, a = some ad ∧ ∀ i j, i < len → j < fs.size → w.cell? (ad.add (i * fs.size + j)) = some (.int .i64 (z i j))) := by
  obtain ⟨fuel, hf⟩ := h
  rcases open_cells ht he hone hC hf with hcs | ⟨x, l, c, hcs, hl, hm, hcell⟩
  · simp [Value.cells] at hcs
    obtain ⟨rfl, rfl, rfl⟩ := hcs
    exact ⟨Nat.le_refl _, Nat.zero_le _, fun _ _ => 0, fun i j h => absurd h (Nat.not_lt_zero _), fun h => absurd h (Nat.not_lt_zero _)⟩
  · simp [Value.cells] at hcs
    obtain ⟨rfl, rfl, rfl⟩ := hcs
    refine ⟨hl, Nat.le_trans hl hm, ?_⟩
    have hz : ∀ i j, ∃ z : Int, i < len → j < fs.size → w.cell? (x.add (i * fs.size + j)) = some (.int .i64 z) ∧ (Lit.int .i64 z).wf = true := by
      intro i j
      by_cases h1 : i < len
      · by_cases h2 : j < fs.size
        · obtain ⟨n, hn⟩ := hcell i h1
          obtain ⟨v, y, hv, hy⟩ := hn j fs[j] (Array.getElem?_eq_getElem h2)
          obtain ⟨z, rfl, hw⟩ := read_i64 (hi j fs[j] (Array.getElem?_eq_getElem h2)) hy
          exact ⟨z, fun _ _ => ⟨hv, hw⟩⟩
        · exact ⟨0, fun _ h => absurd h h2⟩
      · exact ⟨0, fun h _ => absurd h h1⟩
    exact ⟨fun i j => (hz i j).choose, fun i j h1 h2 => ((hz i j).choose_spec h1 h2).2, fun _ => ⟨x, rfl, fun i j h1 h2 => ((hz i j).choose_spec h1 h2).1⟩⟩
/-- The same, of one reading. -/
theorem open_nums_at {t e : TypeId} {fs : Array Field} {a : Option Addr} {len cap fuel : Nat} {x : DataW H × List MemPlace} (ht : P.underlying t = some (.slice e)) (he : P.underlying e = some (.struct fs))
    (hone : oneCellFields P fs = true) (hC : P.cellsOf e = fs.size) (hi : ∀ (j : Nat) (f : Field), fs[j]? = some f → P.underlying f.type = some (.int .i64))
    (hf : DataW.trod enc P w base spare held fuel t [.slice a len cap] = some x) :
    len ≤ cap ∧ len ≤ maxLen ∧ ∃ z : Nat → Nat → Int, (∀ i j, i < len → j < fs.size → (Lit.int .i64 (z i j)).wf = true) ∧
      (0 < len → ∃ ad, a = some ad ∧ ∀ i j, i < len → j < fs.size → w.cell? (ad.add (i * fs.size + j)) = some (.int .i64 (z i j))) :=
  open_nums (d := x.1) (ps := x.2) ht he hone hC hi ⟨fuel, by simpa [Value.cells] using hf⟩

/-- A struct of one slice. -/
theorem open_one {r : Reach} {b0 : Nat} {t e : TypeId} {f0 : Field} {v : Value} {d : DataW H} {p : List MemPlace} (hs : P.underlying t = some (.struct #[f0])) (hf0 : P.underlying f0.type = some (.slice e)) (hone : oneCellFields P #[f0] = true) (hC : P.cellsOf t = 1)
    (hv : Value.okWide P w r b0 t v) (h : DataW.Trod enc P w base spare held t v d p) :
    ∃ (a : Option Addr) (len cap : Nat) (y : DataW H × List MemPlace) (n : Nat), v = .agg #[.slice a len cap] ∧ DataW.trod enc P w base spare held n f0.type [.slice a len cap] = some y := by
  obtain ⟨cs, rfl, hsz⟩ := okWide_struct hs hv
  rw [hC] at hsz
  obtain ⟨c0, rfl⟩ : ∃ c, cs = #[c] := Array.size_eq_one_iff.mp hsz
  obtain ⟨fuel, hf⟩ := h
  obtain ⟨ys, n', hn', hy, hlen, hyl, hg⟩ := DataW.trod_struct hs hf
  obtain ⟨o0, k0⟩ := hone_of hone 0 f0 rfl
  have h1 := hg 0 f0 rfl
  rw [o0, k0] at h1
  have hv1 : (List.drop 0 (Value.agg #[c0]).cells.toList).take 1 = [c0] := rfl
  have h2 : DataW.trod enc P w base spare held n' f0.type [c0] = ys[0]? := h1
  have hys : ys[0]? = some (ys[0]'(by rw [hyl]; exact Nat.zero_lt_one)) := List.getElem?_eq_getElem _
  rw [hys] at h2
  rcases open_slice hf0 h2 with h0 | ⟨a, len, cap, m, n, D, Pl, hcs, _⟩
  · have := h0.1
    simp at this
    subst this
    exact ⟨none, 0, 0, _, n', rfl, h2⟩
  · simp at hcs
    subst hcs
    exact ⟨some a, len, cap, _, n', rfl, h2⟩
end
end Go.Proofs.YtgdpeabbmbclbaaDoor.RowA

/- The row of the law FnExactDropCrossing: The program's DropCrossing returns what the reference's returns, for all arguments. -/
namespace Go.Proofs.YtgdpeabbmbclbaaDoor.fnExactDropCrossing
open Go.ChangeShapes Go.WideShapes Go.ChangeAt Go.RowKit Go.Proofs.YtgdpeabbmbclbaaDoor.Pr Go.Proofs.YtgdpeabbmbclbaaDoorW.PrintWords
open Go.ChangeMaps (open_string shut_string)
set_option linter.unusedVariables false
theorem own : ownKnob Tryd.prog.godebug = none := by kernel_rfl
set_option maxRecDepth 100000 in
theorem lifted (os : Os) (started : os.Started) (H : Type) (enc : TypeId × Value → H) :
    ReturnsInHanded {} Tryd.checked os 12 .any (fun w args => (Rows.fnExactDropCrossingSpec.pre enc Tryd.prog Tryd.f12 [] false w args ∧ laidMetH Tryd.prog Rows.fnExactDropCrossingRow.laid w) ∧ sizedMet enc Tryd.prog Tryd.f12 (OpenSpec.ofChange Rows.fnExactDropCrossingSpec) false w args) (Rows.fnExactDropCrossingSpec.post enc Tryd.prog Tryd.f12 false true false false) := by
  refine Go.Proofs.YtgdpeabbmbclbaaDoor.RowS.returns_and_shaped (C := Tryd.checked) (X := fun w _ => laidMetH Tryd.prog Rows.fnExactDropCrossingRow.laid w) (fun _ _ _ hh h => h.of_heap hh) own started (by kernel_rfl) Tryd.func12
    (ChangeSpec.witness_shaped (enc := enc) (C := Tryd.checked) (os := os) (X := fun w _ => laidMetH Tryd.prog Rows.fnExactDropCrossingRow.laid w) false (World.laidAll Tryd.prog os Rows.fnExactDropCrossingRow.laid) #[.string ByteArray.empty, .string ByteArray.empty] 8 (World.laidAll_os _ _ _)
      (World.shaped_of_ZipB (by kernel_rfl) (by kernel_rfl)) (by kernel_rfl) (by kernel_rfl) (by kernel_rfl)
      (by rw [MakeChecks.laidMetH_plain _ _ _ (by kernel_rfl)]; exact laidMet_laidAll _ (by kernel_rfl) (by kernel_rfl))) ?_
  intro W base args ds gs before hval0 hW hcnd hsz0 hlaid hsh _
  have hsz : (DataW.weightsEach Tryd.prog (Tryd.f12.params.toList ++ Rows.fnExactDropCrossingSpec.plain.varTypes Tryd.prog) (ds ++ gs)).all (· ≤ reachBytes) = true := hsz0
  have hval : ∀ (j : Nat) t v, Tryd.f12.params[j]? = some t → args[j]? = some v → Value.okWide Tryd.prog W .any base t v := hval0
  have hW' := hW
  obtain ⟨p, q, hA0, hV, rfl, hfz, hnd⟩ := hW
  have hA : DataW.TrodAll enc Tryd.prog W 0 (fun _ => true) true Tryd.f12.params.toList args.toList ds p := hA0
  rw [Tryd.params12] at hA hval hsz
  obtain ⟨v0, vs0, d0, ds0, p0, q0, hargs, rfl, rfl, h0, r0⟩ := trodAll_cons hA
  obtain ⟨v1, vs1, d1, ds1, p1, q1, rfl, rfl, rfl, h1, r1⟩ := trodAll_cons r0
  obtain ⟨rfl, rfl, rfl⟩ := trodAll_nil r1
  obtain rfl : args = #[v0, v1] := by cases args; simp_all
  obtain ⟨rfl, rfl⟩ := trodVars_none hV
  obtain ⟨a0, rfl, rfl, rfl, y0⟩ := open_string Tryd.underlying9 (hval 0 9 v0 rfl rfl) h0
  have w0 : a0.size ≤ 140737488351232 := by
    have z := sized_string hsz (j := 0) (t := 9) rfl rfl
    rw [Array.length_toList] at z
    exact z
  obtain ⟨a1, rfl, rfl, rfl, y1⟩ := open_string Tryd.underlying9 (hval 1 9 v1 rfl rfl) h1
  have w1 : a1.size ≤ 140737488351232 := by
    have z := sized_string hsz (j := 1) (t := 9) rfl rfl
    rw [Array.length_toList] at z
    exact z
  clear hA0 hval0 hsz0 hsz
  obtain ⟨k, hk⟩ := Pure.FnExactDropCrossing a0 a1 w0 w1
  refine (laws_FnExactDropCrossing.calls k a0 a1 true W (hasMax_shaped W hsh) hk).mono fun e W' he => ?_
  obtain ⟨he, bel0⟩ := he
  have bel : Below W.heap.size W W' := bel0
  subst he
  exact ⟨_, rfl, _, _, _, [], _, [], hW', trodAll_mk1 (shut_bool Tryd.underlying4 _), (trodAll_cons_mk (shut_string Tryd.underlying9 y0) (trodAll_cons_mk (shut_string Tryd.underlying9 y1) trodAll_mk0)), rfl, bel.frame _, fun h => by cases h⟩
theorem over : Rows.fnExactDropCrossingRow.holds Tryd.pinned (OpenSpec.ofChange Rows.fnExactDropCrossingSpec) :=
  OpenClaim.holds_of_wide 12 Tryd.f12 rfl rfl rfl rfl rfl rfl rfl ⟨rfl, rfl, rfl, rfl, rfl⟩ rfl rfl rfl rfl rfl (by kernel_rfl) Tryd.func12 (by kernel_rfl)
    (of_decide_eq_true (by kernel_rfl)) (by unfold Func.isWrapper; first | (rw [if_pos (by decide +kernel)]; kernel_rfl) | (rw [if_neg (by decide +kernel)]; exact ⟨rfl, rfl⟩))
    (fun os started H enc _ => lifted os started H enc)
theorem proved : Rows.FnExactDropCrossingSaid := over
theorem card_holds : Rows.FnExactDropCrossingCardSaid :=
  Claim7.holds_tied_plain_at .later [] [.data, .pinned] true (true, "6c39b66ebf8ce6e358ee65a3ba0e0bf1bbd857d534c242ce5d1d887f1e97a3bb") false
    proved (fun _ h => by cases h) (by kernel_rfl) (fun _ h => by cases h) fnExactDropCrossing_row_tie rfl ⟨rfl, rfl⟩ (by kernel_rfl) rfl
    (fun f fn hf hfn => by
      obtain rfl : f = 12 := Option.some.inj ((show Tryd.prog.funcNamed Rows.fnExactDropCrossingRow.func = some 12 by kernel_rfl).symm.trans hf) |>.symm
      obtain rfl : fn = Tryd.f12 := (Option.some.inj (Tryd.func12.symm.trans hfn)).symm
      exact ⟨by kernel_rfl, fun j t ht => by
        rw [Tryd.params12] at ht
        have hm : t ∈ [9, 9] := by simpa using Array.mem_of_getElem? ht
        have hall : ([9, 9].all fun u => !Tryd.prog.wantsStandIn u) = true := by kernel_rfl
        exact (show Tryd.prog.wantsStandIn t = false by simpa using List.all_eq_true.1 hall t hm)⟩)
    (by kernel_rfl)
end Go.Proofs.YtgdpeabbmbclbaaDoor.fnExactDropCrossing
namespace Go.Proofs.YtgdpeabbmbclbaaDoor
/-- The row, under a short name, for the claim. -/
theorem fnExactDropCrossing_holds : Rows.FnExactDropCrossingCardSaid := fnExactDropCrossing.card_holds
#print axioms fnExactDropCrossing_holds
end Go.Proofs.YtgdpeabbmbclbaaDoor
