/- Loops are ranked in order, all of them are told and those that can be drawn counted, and joined loops are drawn if both are. (Part 3 of 6.) -/
import Derived.RowKit
import Derived.Lib.OthersKept
import Derived.IntWalk
import Derived.Deep.RegionWith
import Derived.Deep.RegionHeld3
import Derived.Test.YtcgoaipbfnhjhaaGreatDoorKFnLoopsListed0
import Derived.Test.YtcgoaipbfnhjhaaGreatDoorKFnLoopsListed1
-- Written by a program for this claim.
namespace Go.Proofs.YtcgoaipbfnhjhaaGreatDoor.Pr
open Go.RowKit Go.Proofs.YtcgoaipbfnhjhaaGreatDoorW.PrintWords Go.Proofs.YtcgoaipbfnhjhaaGreatDoorW.PrintLast Go.Proofs.YtcgoaipbfnhjhaaGreatDoorW.PrintMore
attribute [local go_sem] max2_int min2_int max_two min_two max_three min_three max_four min_four   -- for this text's walks alone
set_option linter.unusedVariables false
set_option linter.unusedSimpArgs false

/-! ### impl_interlaced: function 92 -/
def impl_interlaced.f (a0 : ByteArray) (a1 : Int) (a2 : Int) : Option (Bool) := (strings_IndexByte.f a0 a1).bind fun t105 => ((strings_LastIndexByte.f a0 a1).bind fun t106 => (if 0 ≤ (wrap64 (t105 + 1)) then (if (wrap64 (t105 + 1)) ≤ t106 then (if t106 ≤ (a0.size : Int) then ((strings_Count.f (a0.extract ((wrap64 (t105 + 1)) : Int).toNat (t106 : Int).toNat) (Utf8.encode (wrap32 (a2)))).bind fun t107 => (some (t107 == 1))) else (none)) else (none)) else (none)))
set_option maxHeartbeats 8000000 in
set_option maxRecDepth 100000 in
theorem impl_interlaced.calls (a0 : ByteArray) (a1 : Int) (a2 : Int) (r : Bool) (w : World) (h : impl_interlaced.f a0 a1 a2 = some r) :
    Calls Tryz.prog 92 #[.string a0, .int .u8 a1, .int .u8 a2] w fun e w' => e = .returned (.bool r) ∧ Drawn0 w w' := by
  have H : ((strings_IndexByte.f a0 a1).bind fun t105 => ((strings_LastIndexByte.f a0 a1).bind fun t106 => (if 0 ≤ (wrap64 (t105 + 1)) then (if (wrap64 (t105 + 1)) ≤ t106 then (if t106 ≤ (a0.size : Int) then ((strings_Count.f (a0.extract ((wrap64 (t105 + 1)) : Int).toNat (t106 : Int).toNat) (Utf8.encode (wrap32 (a2)))).bind fun t107 => (some (t107 == 1))) else (none)) else (none)) else (none)))) = some r := h
  clear h
  replace H := Option.bind_eq_some_iff.mp H
  obtain ⟨t105, A40, H⟩ := H
  replace H : ((strings_LastIndexByte.f a0 a1).bind fun t106 => (if 0 ≤ (wrap64 (t105 + 1)) then (if (wrap64 (t105 + 1)) ≤ t106 then (if t106 ≤ (a0.size : Int) then ((strings_Count.f (a0.extract ((wrap64 (t105 + 1)) : Int).toNat (t106 : Int).toNat) (Utf8.encode (wrap32 (a2)))).bind fun t107 => (some (t107 == 1))) else (none)) else (none)) else (none))) = some r := H
  have A4 := Aside0.mk A40
  clear A40
  replace H := Option.bind_eq_some_iff.mp H
  obtain ⟨t106, A50, H⟩ := H
  replace H : (if 0 ≤ (wrap64 (t105 + 1)) then (if (wrap64 (t105 + 1)) ≤ t106 then (if t106 ≤ (a0.size : Int) then ((strings_Count.f (a0.extract ((wrap64 (t105 + 1)) : Int).toNat (t106 : Int).toNat) (Utf8.encode (wrap32 (a2)))).bind fun t107 => (some (t107 == 1))) else (none)) else (none)) else (none)) = some r := H
  have A5 := Aside0.mk A50
  clear A50
  obtain ⟨ji6, hji6⟩ : ∃ j_ : Int, (wrap64 (t105 + 1)) = j_ := ⟨_, rfl⟩
  replace H : (if 0 ≤ (ji6) then (if (ji6) ≤ t106 then (if t106 ≤ (a0.size : Int) then ((strings_Count.f (a0.extract ((ji6) : Int).toNat (t106 : Int).toNat) (Utf8.encode (wrap32 (a2)))).bind fun t107 => (some (t107 == 1))) else (none)) else (none)) else (none)) = some r := by first | (rw [hji6] at H; exact H) | (simp only [hji6] at H ⊢; exact H)
  (try rw [hji6] at A4)
  (try rw [hji6] at A5)
  have hji6w : (IntKind.i64.wrap (t105 + 1)) = ji6 := (i64_w _).trans hji6
  by_cases c7 : 0 ≤ (ji6)
  · rw [if_pos c7] at H
    have c7b0 := eq_true c7
    have c7b1 : decide (0 ≤ (ji6)) = true := decide_eq_true c7
    clear c7
    by_cases c8 : (ji6) ≤ t106
    · rw [if_pos c8] at H
      have c8b0 := eq_true c8
      have c8b1 : decide ((ji6) ≤ t106) = true := decide_eq_true c8
      clear c8
      by_cases c9 : t106 ≤ (a0.size : Int)
      · rw [if_pos c9] at H
        have c9b0 := eq_true c9
        have c9b1 : decide (t106 ≤ (a0.size : Int)) = true := decide_eq_true c9
        clear c9
        replace H := Option.bind_eq_some_iff.mp H
        obtain ⟨t107, A100, H⟩ := H
        replace H : (some (t107 == 1)) = some r := H
        have A10 := Aside0.mk A100
        clear A100
        obtain rfl := Option.some.inj H
        go_enter Tryz.func92, Tryz.ntmps92
        go_wp2_with (first | ((with_reducible refine gate_callee (f := 85) rfl ?_); refine goesL_ (some 11) rfl rfl Tryz.func85 (by kernel_rfl) rfl #[.string a0, .int .u8 a1] rfl (by (try simp only [List.map_toArray, List.map_cons, List.map_nil]); first | done | rfl | (simp only [List.length_drop, List.length_take]; rfl)) ?_; (with_reducible refine (strings_IndexByte.calls a0 a1 t105 _ A4.out).mono ?_); rintro e w' ⟨rfl, ⟨nd, rfl⟩⟩; refine ⟨_, rfl, ?_⟩) | ((with_reducible refine gate_callee (f := 84) rfl ?_); refine goesL_ (some 15) rfl rfl Tryz.func84 (by kernel_rfl) rfl #[.string a0, .int .u8 a1] rfl (by (try simp only [List.map_toArray, List.map_cons, List.map_nil]); first | done | rfl | (simp only [List.length_drop, List.length_take]; rfl)) ?_; (with_reducible refine (strings_LastIndexByte.calls a0 a1 t106 _ A5.out).mono ?_); rintro e w' ⟨rfl, ⟨nd, rfl⟩⟩; refine ⟨_, rfl, ?_⟩) | ((with_reducible refine gate_callee (f := 66) rfl ?_); refine goesL_ (some 21) rfl rfl Tryz.func66 (by kernel_rfl) rfl #[.string (a0.extract ((ji6) : Int).toNat (t106 : Int).toNat), .string (Utf8.encode (wrap32 (a2)))] rfl (by (try simp only [List.map_toArray, List.map_cons, List.map_nil]); first | done | (simp only [hji6]; rfl) | rfl | (simp only [List.length_drop, List.length_take]; rfl)) ?_; (with_reducible refine (strings_Count.calls (a0.extract ((ji6) : Int).toNat (t106 : Int).toNat) (Utf8.encode (wrap32 (a2))) t107 _ A10.out).mono ?_); rintro e w' ⟨rfl, ⟨nd, rfl⟩⟩; refine ⟨_, rfl, ?_⟩))
        go_ret
        exact ⟨by first | rfl | (simp; done) | (simp only [← hji6] <;> (first | rfl | simp)) | (simp [*]; done), by repeat (first | exact Drawn0.refl _ | apply Drawn0.step)⟩
      · rw [if_neg c9] at H
        exact absurd H (by simp)
    · rw [if_neg c8] at H
      exact absurd H (by simp)
  · rw [if_neg c7] at H
    exact absurd H (by simp)

end Go.Proofs.YtcgoaipbfnhjhaaGreatDoor.Pr

/- What the program's interlacedWith computes: the letters that are interlaced with one. -/
namespace Go.Proofs.YtcgoaipbfnhjhaaGreatDoor.Pr
open Go.RowKit Go.Proofs.YtcgoaipbfnhjhaaGreatDoorW.PrintWords Go.Proofs.YtcgoaipbfnhjhaaGreatDoorW.PrintLast Go.Proofs.YtcgoaipbfnhjhaaGreatDoorW.PrintMore
set_option linter.unusedVariables false
set_option linter.unusedSimpArgs false

/-- Whether a letter is another one, and interlaced with it. -/
def withB (w : ByteArray) (a c : Int) : Bool := (c != a) && (impl_interlaced.f w a c).getD false
def okWith (w : ByteArray) (a : Int) : Bool := decide (w.size ≤ 16) && (M.abcL (w.size / 2)).all fun c => (impl_interlaced.f w a c).isSome
def impl_interlacedWith.f (a0 : ByteArray) (a1 : Int) : Option (ByteArray) := if okWith a0 a1 = true then some (strOfNums (M.lettP (withB a0 a1) 97 (a0.size / 2))) else none

set_option maxHeartbeats 4000000 in
theorem with_pred (w0 : ByteArray) (a : Int) (c : Int) (b : Bool) (hc : impl_interlaced.f w0 a c = some b) (B1 B2 : Nat) (W : World) (h1 : W.cell? ⟨B1, 0, none⟩ = some (.int .u8 a)) (h2 : W.cell? ⟨B2, 0, none⟩ = some (.string w0)) :
    Calls Tryz.prog 122 #[.int .u8 c, .pointer (some ⟨B1, 0, none⟩), .pointer (some ⟨B2, 0, none⟩)] W fun e w' => e = .returned (.bool ((c != a) && b)) ∧ Below W.heap.size W w' := by
  have HI := Aside0.mk (fun (W1 : World) => impl_interlaced.calls w0 a c b W1 hc)
  clear hc
  cases e : (c == a) with
  | true =>
    have e2 : (c != a) = false := by simpa using e
    go_enter Tryz.func122, Tryz.ntmps122
    go_wp2_with fail
    go_ret
    exact ⟨by rw [e2]; rfl, Below.refl _ _⟩
  | false =>
    have e2 : (c != a) = true := by simpa using e
    go_enter Tryz.func122, Tryz.ntmps122
    go_wp2_with (go_at_call 92; refine (HI.out _).mono ?_; rintro e w' ⟨rfl, ⟨nd, rfl⟩⟩)
    go_ret
    exact ⟨by rw [e2]; rfl, pw_below_drewN (Below.refl _ _) _⟩

theorem okWith_at {w : ByteArray} {a : Int} (h : okWith w a = true) : w.size ≤ 16 ∧ ∀ x : Int, 97 ≤ x → x < 97 + ((w.size / 2 : Nat) : Int) → ∃ b, impl_interlaced.f w a x = some b := by
  unfold okWith at h
  simp only [Bool.and_eq_true, decide_eq_true_eq, List.all_eq_true] at h
  exact ⟨h.1, fun x h1 h2 => Option.isSome_iff_exists.1 (h.2 x ((M.mem_abc _ x).2 ⟨h1, h2⟩))⟩

set_option maxHeartbeats 4000000 in
theorem impl_interlacedWith.calls (a0 : ByteArray) (a1 : Int) (r : ByteArray) (w : World) (h : impl_interlacedWith.f a0 a1 = some r) :
    Calls Tryz.prog 91 #[.string a0, .int .u8 a1] w fun e w' => e = .returned (.string r) ∧ Below w.heap.size w w' := by
  unfold impl_interlacedWith.f at h
  by_cases hk : okWith a0 a1 = true
  · rw [if_pos hk] at h
    obtain ⟨h16, hall⟩ := okWith_at hk
    obtain rfl := Option.some.inj h
    have eg : ∀ args w, (callFunc 122 args).run Tryz.prog w = .ok (.enter 122 args) w := enters_of Tryz.func122 (by kernel_rfl) rfl
    have hb0 : Below w.heap.size w ((w.alloc (.cells #[.string a0] 9)).alloc (.cells #[.int .u8 a1] 5)) := below_alloc (below_alloc (Below.refl _ _) _) _
    have hc1 : ((w.alloc (.cells #[.string a0] 9)).alloc (.cells #[.int .u8 a1] 5)).cell? ⟨w.heap.size, 0, none⟩ = some (.string a0) := by simp
    have hc2 : ((w.alloc (.cells #[.string a0] 9)).alloc (.cells #[.int .u8 a1] 5)).cell? ⟨w.heap.size + 1, 0, none⟩ = some (.int .u8 a1) := by
      have := (w.alloc (.cells #[.string a0] 9)).heap.size
      simp
    have hsz : w.heap.size + 1 < ((w.alloc (.cells #[.string a0] 9)).alloc (.cells #[.int .u8 a1] 5)).heap.size := by simp
    have hL := Aside0.mk (lettersWith_calls a0 (a0.size / 2) rfl (by omega) (withB a0 a1) 122 #[.pointer (some ⟨w.heap.size + 1, 0, none⟩), .pointer (some ⟨w.heap.size, 0, none⟩)] eg ((w.alloc (.cells #[.string a0] 9)).alloc (.cells #[.int .u8 a1] 5))
      (fun W2 x h1 h2 hb => by
        obtain ⟨b, hbx⟩ := hall x h1 h2
        have e : withB a0 a1 x = ((x != a1) && b) := by unfold withB; rw [hbx]; rfl
        rw [e]
        exact with_pred a0 a1 x b hbx (w.heap.size + 1) w.heap.size W2 ((hb.cell (p := ⟨w.heap.size + 1, 0, none⟩) hsz).trans hc2) ((hb.cell (p := ⟨w.heap.size, 0, none⟩) (show w.heap.size < _ by omega)).trans hc1)))
    generalize strOfNums (M.lettP (withB a0 a1) 97 (a0.size / 2)) = s at hL h
    have HB0 := Aside0.mk hb0
    clear h eg hc1 hc2 hall hb0
    go_enter Tryz.func91, Tryz.ntmps91
    go_wp2_with (go_at_call 82; refine hL.out.mono ?_; rintro e w' ⟨rfl, hb⟩)
    go_ret
    exact ⟨rfl, HB0.out.trans (hb.mono (by simp; omega))⟩
  · rw [if_neg hk] at h; cases h
end Go.Proofs.YtcgoaipbfnhjhaaGreatDoor.Pr

/- What the program's common computes: how many letters are interlaced with both. -/
namespace Go.Proofs.YtcgoaipbfnhjhaaGreatDoor.Pr
open Go.RowKit Go.Proofs.YtcgoaipbfnhjhaaGreatDoorW.PrintWords Go.Proofs.YtcgoaipbfnhjhaaGreatDoorW.PrintLast Go.Proofs.YtcgoaipbfnhjhaaGreatDoorW.PrintMore
set_option linter.unusedVariables false
set_option linter.unusedSimpArgs false

/-- Whether a letter is a third one, and interlaced with both. -/
def commB (w : ByteArray) (a b c : Int) : Bool := (c != a) && (c != b) && (impl_interlaced.f w a c).getD false && (impl_interlaced.f w b c).getD false
def impl_common.f (a0 : ByteArray) (a1 : Int) (a2 : Int) : Option (Int) := if okWith a0 a1 = true ∧ okWith a0 a2 = true then some ((M.lettP (commB a0 a1 a2) 97 (a0.size / 2)).length : Int) else none

set_option maxHeartbeats 1000000 in
theorem comm_pred (w0 : ByteArray) (a b : Int) (c : Int) (p q : Bool) (hp : impl_interlaced.f w0 a c = some p) (hq : impl_interlaced.f w0 b c = some q) (B1 B2 B3 : Nat) (W : World) (h1 : W.cell? ⟨B1, 0, none⟩ = some (.int .u8 a)) (h2 : W.cell? ⟨B2, 0, none⟩ = some (.int .u8 b)) (h3 : W.cell? ⟨B3, 0, none⟩ = some (.string w0)) :
    Calls Tryz.prog 129 #[.int .u8 c, .pointer (some ⟨B1, 0, none⟩), .pointer (some ⟨B2, 0, none⟩), .pointer (some ⟨B3, 0, none⟩)] W fun e w' => e = .returned (.bool ((c != a) && (c != b) && p && q)) ∧ Below W.heap.size W w' := by
  have HP := Aside0.mk (fun (W1 : World) => impl_interlaced.calls w0 a c p W1 hp)
  have HQ := Aside0.mk (fun (W1 : World) => impl_interlaced.calls w0 b c q W1 hq)
  clear hp hq
  cases e : (c == a) with
  | true =>
    have e2 : (c != a) = false := by simpa using e
    go_enter Tryz.func129, Tryz.ntmps129
    go_wp2_with fail
    go_ret
    exact ⟨by rw [e2]; rfl, Below.refl _ _⟩
  | false =>
    have e2 : (c != a) = true := by simpa using e
    cases f : (c == b) with
    | true =>
      have f2 : (c != b) = false := by simpa using f
      go_enter Tryz.func129, Tryz.ntmps129
      go_wp2_with fail
      go_ret
      exact ⟨by rw [e2, f2]; rfl, Below.refl _ _⟩
    | false =>
      have f2 : (c != b) = true := by simpa using f
      cases p with
      | false =>
        go_enter Tryz.func129, Tryz.ntmps129
        go_wp2_with (go_at_call 92; with_reducible refine (HP.out _).mono ?_; rintro e w' ⟨rfl, ⟨nd, rfl⟩⟩)
        go_ret
        exact ⟨by rw [e2, f2]; rfl, pw_below_drewN (Below.refl _ _) _⟩
      | true =>
        go_enter Tryz.func129, Tryz.ntmps129
        go_wp2_with (first | (go_at_call 92; with_reducible refine (HP.out _).mono ?_; rintro e w' ⟨rfl, ⟨nd, rfl⟩⟩) | (go_at_call 92; with_reducible refine (HQ.out _).mono ?_; rintro e w' ⟨rfl, ⟨nd2, rfl⟩⟩))
        go_ret
        exact ⟨by rw [e2, f2]; rfl, pw_below_drewN (Below.refl _ _) _⟩

theorem fresh_cell (W : World) (u : Value) (t : TypeId) : (W.alloc (.cells #[u] t)).cell? ⟨W.heap.size, 0, none⟩ = some u := by simp
theorem kept_cell (W : World) (o : Obj) {B : Nat} {v : Value} (hB : B < W.heap.size) (h : W.cell? ⟨B, 0, none⟩ = some v) : (W.alloc o).cell? ⟨B, 0, none⟩ = some v := ((below_alloc (Below.refl W.heap.size W) o).cell (p := ⟨B, 0, none⟩) hB).trans h
theorem strOf_size (l : List Int) : (strOfNums l).size = l.length := by
  unfold strOfNums
  show (List.toArray _).size = _
  rw [List.size_toArray, List.length_map]

set_option maxHeartbeats 4000000 in
theorem impl_common.calls (a0 : ByteArray) (a1 : Int) (a2 : Int) (r : Int) (w : World) (h : impl_common.f a0 a1 a2 = some r) :
    Calls Tryz.prog 112 #[.string a0, .int .u8 a1, .int .u8 a2] w fun e w' => e = .returned (.int .i64 r) ∧ Below w.heap.size w w' := by
  unfold impl_common.f at h
  by_cases hk : okWith a0 a1 = true ∧ okWith a0 a2 = true
  · rw [if_pos hk] at h
    obtain ⟨h16, hall⟩ := okWith_at hk.1
    obtain ⟨_, hall2⟩ := okWith_at hk.2
    obtain rfl := Option.some.inj h
    have eg : ∀ args w, (callFunc 129 args).run Tryz.prog w = .ok (.enter 129 args) w := enters_of Tryz.func129 (by kernel_rfl) rfl
    obtain ⟨W0, hW0⟩ : ∃ W0, W0 = ((w.alloc (.cells #[.string a0] 9)).alloc (.cells #[.int .u8 a1] 5)).alloc (.cells #[.int .u8 a2] 5) := ⟨_, rfl⟩
    have hb0 : Below w.heap.size w W0 := by rw [hW0]; exact below_alloc (below_alloc (below_alloc (Below.refl _ _) _) _) _
    have z1 : (w.alloc (.cells #[.string a0] 9)).heap.size = w.heap.size + 1 := by simp
    have z2 : ((w.alloc (.cells #[.string a0] 9)).alloc (.cells #[.int .u8 a1] 5)).heap.size = w.heap.size + 1 + 1 := by simp
    have hc1 : W0.cell? ⟨w.heap.size, 0, none⟩ = some (.string a0) := by rw [hW0]; exact kept_cell _ _ (by rw [z2]; omega) (kept_cell _ _ (by rw [z1]; omega) (fresh_cell _ _ _))
    have hc2 : W0.cell? ⟨w.heap.size + 1, 0, none⟩ = some (.int .u8 a1) := by rw [hW0, ← z1]; exact kept_cell _ _ (by rw [z2, z1]; omega) (fresh_cell _ _ _)
    have hc3 : W0.cell? ⟨w.heap.size + 1 + 1, 0, none⟩ = some (.int .u8 a2) := by rw [hW0, ← z2]; exact fresh_cell _ _ _
    have hsz : w.heap.size + 1 + 1 < W0.heap.size := by rw [hW0]; simp
    have hL := Aside0.mk (lettersWith_calls a0 (a0.size / 2) rfl (by omega) (commB a0 a1 a2) 129 #[.pointer (some ⟨w.heap.size + 1, 0, none⟩), .pointer (some ⟨w.heap.size + 1 + 1, 0, none⟩), .pointer (some ⟨w.heap.size, 0, none⟩)] eg W0
      (fun W2 x h1 h2 hb => by
        obtain ⟨b, hbx⟩ := hall x h1 h2
        obtain ⟨q, hqx⟩ := hall2 x h1 h2
        have e : commB a0 a1 a2 x = ((x != a1) && (x != a2) && b && q) := by unfold commB; rw [hbx, hqx]; rfl
        rw [e]
        exact comm_pred a0 a1 a2 x b q hbx hqx (w.heap.size + 1) (w.heap.size + 1 + 1) w.heap.size W2 ((hb.cell (p := ⟨w.heap.size + 1, 0, none⟩) (show w.heap.size + 1 < _ by omega)).trans hc2) ((hb.cell (p := ⟨w.heap.size + 1 + 1, 0, none⟩) hsz).trans hc3) ((hb.cell (p := ⟨w.heap.size, 0, none⟩) (show w.heap.size < _ by omega)).trans hc1)))
    have hn := strOf_size (M.lettP (commB a0 a1 a2) 97 (a0.size / 2))
    rw [← hn]
    generalize strOfNums (M.lettP (commB a0 a1 a2) 97 (a0.size / 2)) = s at hL h
    have HB0 := Aside0.mk hb0
    have hwz := hb0.size
    clear h eg hc1 hc2 hc3 hall hall2 hb0 hn hk
    clear z1 z2 hsz
    subst hW0
    go_enter Tryz.func112, Tryz.ntmps112
    go_wp2_with (go_at_call 82; refine hL.out.mono ?_; rintro e w' ⟨rfl, hb⟩)
    go_ret
    exact ⟨rfl, HB0.out.trans (hb.mono hwz)⟩
  · rw [if_neg hk] at h; cases h
end Go.Proofs.YtcgoaipbfnhjhaaGreatDoor.Pr

/- A row of one's own of which no cell is frozen, whatever its mark: a text's bytes, appended to one by one. -/
namespace Go.Proofs.YtcgoaipbfnhjhaaGreatDoor.Pr
open Go.RowKit Go.Proofs.YtcgoaipbfnhjhaaGreatDoorW.PrintWords Go.Proofs.YtcgoaipbfnhjhaaGreatDoorW.PrintLast Go.Proofs.YtcgoaipbfnhjhaaGreatDoorW.PrintMore
set_option linter.unusedVariables false
set_option linter.unusedSimpArgs false

/-- The row v of one's own holds xs; its mark touches none of its cells. -/
def OwnT (w : World) (base : Nat) (e : TypeId) (v : Value) (xs : List Value) : Prop :=
  ∃ g cap cur fz, v = .slice (some ⟨g, 0, none⟩) xs.length cap ∧ base ≤ g ∧ w.heap[g]? = some (.cells cur e fz) ∧ (fz.1 < fz.2 → cur.size ≤ fz.1) ∧ xs.length ≤ cap ∧ cap ≤ maxLen ∧ cur.size = cap ∧ cur.toList.take xs.length = xs
theorem OwnT.lt {w : World} {base : Nat} {e : TypeId} {v : Value} {xs : List Value} (h : OwnT w base e v xs) : ∃ g, v.ownBlock = some g ∧ base ≤ g ∧ g < w.heap.size := by
  obtain ⟨g, cap, cur, fz, rfl, hb, hg, _⟩ := h
  exact ⟨g, rfl, hb, (Array.getElem?_eq_some_iff.1 hg).1⟩
theorem OwnT.below {w w' : World} {base : Nat} {e : TypeId} {v : Value} {xs : List Value} (h : OwnT w base e v xs) (hb : Below w.heap.size w w') : OwnT w' base e v xs := by
  obtain ⟨g, cap, cur, fz, hv, hbg, hg, rest⟩ := h
  exact ⟨g, cap, cur, fz, hv, hbg, (hb.block g (Array.getElem?_eq_some_iff.1 hg).1).trans hg, rest⟩
theorem OwnT.cell {w : World} {base : Nat} {e : TypeId} {xs : List Value} {g n cap : Nat} (h : OwnT w base e (.slice (some ⟨g, 0, none⟩) n cap) xs) (j : Nat) (u : Value) (hu : xs[j]? = some u) : w.cell? ⟨g, j, none⟩ = some u := by
  obtain ⟨g', cap', cur, fz, hv, hbg, hg, hfz, hn, hm, hc, ht⟩ := h
  simp only [Value.slice.injEq, Option.some.injEq, Addr.mk.injEq] at hv
  obtain ⟨⟨rfl, _, _⟩, _, _⟩ := hv
  rw [← ht, List.getElem?_take] at hu
  split at hu
  · simp only [World.cell?, hg]
    simpa using hu
  · cases hu
theorem bytes_own (W : World) (e : TypeId) (s : ByteArray) (base : Nat) (hb : base ≤ W.heap.size) (hs : s.size ≤ 1000000) : OwnT (Lib.bytesWorld W e s) base e (.slice (some ⟨W.heap.size, 0, none⟩) s.size (grownCap W s.size 0 e)) (encs (fun (x : Int) => Value.int .u8 x) (bytesOf s)) := by
  have hlen := bytesOf_length s
  have hge := grownCap_ge W s.size 0 e
  have hl : (encs (fun (x : Int) => Value.int .u8 x) (bytesOf s)).length = s.size := by rw [encs_length, hlen]
  have hbs : (Lib.bytesCells W e s).size = grownCap W s.size 0 e := by
    unfold Lib.bytesCells
    rw [Array.size_append, Array.size_map, Array.size_replicate]
    have : s.data.size = s.size := rfl
    omega
  refine ⟨W.heap.size, grownCap W s.size 0 e, _, _, by rw [hl], hb, Lib.bytesWorld_at_new W e s, fun _ => Nat.le_refl _, by omega, grownCap_le_maxLen W s.size 0 e (by simp only [maxLen]; omega), hbs, ?_⟩
  rw [hl]
  unfold Lib.bytesCells
  rw [Array.toList_append, List.take_left' (by rw [Array.length_toList, Array.size_map]; rfl)]
  simp [encs, bytesOf]

/-- One cell more. -/
theorem append_tail {P : Program} (w : World) (base : Nat) (t ty e : TypeId) (i : TypeInfo) (z : Value) (ht : P.underlying t = some (.slice e)) (hi : P.info? e = some i) (hz : i.zero = some z) (hsize : i.size = 1) (hby : i.bytes = 1) (hzs : z.cells.size = 1)
    (v : Value) (xs : List Value) (hown : OwnT w base e v xs) (a : Addr) (c : Nat) (u : Value) (hu : w.cell? a = some u) (h1 : u.oneCell' = true) (hl : xs.length ≤ 1000000) (hbase : base ≤ w.heap.size) :
    ∃ v' w', (Builtin.append_ #[t, t] ty #[v, .slice (some a) 1 c]).run P w = .ok v' w' ∧ OwnT w' base e v' (xs ++ [u]) ∧ w.grownBy w' v.ownBlock := by
  have hn0 : ∀ j u', [u][j]? = some u' → w.cell? (a.add j) = some u' := by
    intro j u' hj
    match j, hj with
    | 0, hj =>
      injection hj with hj
      subst hj
      have : a.add 0 = a := by unfold Addr.add; split <;> simp_all
      rw [this]; exact hu
    | j + 1, hj => simp at hj
  obtain ⟨g, cap, cur, fz, rfl, hbg, hg, hfz, hn, hm, hc, htk⟩ := hown
  by_cases hroom : xs.length + 1 ≤ cap
  · have hf := run_firstCells_some (P := P) w i.size 1 a 1 c [u] (by rw [hsize]; rfl) hn0
    have hlt : xs.length < cur.size := by omega
    have hadd : (⟨g, xs.length, none⟩ : Addr).add 0 = ⟨g, xs.length, none⟩ := by unfold Addr.add; split <;> simp_all
    have hcell : w.cell? ⟨g, xs.length, none⟩ = some cur[xs.length] := by simp [World.cell?, hg, hlt]
    have hfro : w.frozen? ⟨g, xs.length, none⟩ = false := by
      obtain ⟨lo, hi'⟩ := fz
      simp only [World.frozen?, hg, Bool.and_eq_false_iff, decide_eq_false_iff_not]
      simp only at hfz
      by_cases h : lo < hi'
      · left
        have := hfz h
        omega
      · omega
    have hst : (storeCells ⟨g, xs.length, none⟩ [u] 0).run P w = .ok () (w.setRow g (cur.setIfInBounds xs.length u)) := by
      simp only [storeCells, Sem.run_bind, hadd]
      rw [run_store P w _ u _ h1, hcell]
      simp [hfro, setCell_eq_setRow w g xs.length cur e fz u hg, Result.andThen]
    refine ⟨.slice (some ⟨g, 0, none⟩) (xs.length + 1) cap, w.setRow g (cur.setIfInBounds xs.length u), ?_, ⟨g, cap, _, fz, by simp, hbg, setRow_heap w g cur _ e _ hg, ?_, by simpa using hroom, hm, by simpa using hc, ?_⟩, ⟨rfl, rfl, rfl, by simp, fun k _ hk => setRow_other w g k _ (fun e => hk (by simp [Value.ownBlock, e]))⟩⟩
    · simp [Builtin.append_, run_underlying ht, sizeOf, typeInfo, hi, hsize, Builtin.lenOf, hroom, hf, Addr.add_lit, hst]
      rw [hsize] at hf
      rw [hf]
      simp only [Result.andThen]
      rw [hst]
    · intro h
      rw [Array.size_setIfInBounds]
      exact hfz h
    · have hl2 : (xs ++ [u]).length = xs.length + 1 := by simp
      rw [hl2, Array.toList_setIfInBounds]
      have e1 : (cur.toList.set xs.length u).take (xs.length + 1) = cur.toList.take xs.length ++ [u] := by
        rw [List.take_add_one, List.take_set_of_le (Nat.le_refl _), List.getElem?_set_self (by rw [Array.length_toList]; exact hlt)]
        rfl
      rw [e1, htk]
  · have holds : ∀ j u', xs[j]? = some u' → w.cell? ((⟨g, 0, none⟩ : Addr).add j) = some u' := by
      intro j u' hj
      have hadd : (⟨g, 0, none⟩ : Addr).add j = ⟨g, j, none⟩ := by unfold Addr.add; split <;> simp_all
      rw [hadd]
      exact OwnT.cell (base := base) (n := xs.length) (cap := cap) ⟨g, cap, cur, fz, rfl, hbg, hg, hfz, hn, hm, hc, htk⟩ j u' hj
    have hr := run_append_grow (P := P) w t ty e i z ht hi hz ⟨g, 0, none⟩ xs.length cap xs (by rw [hsize]; omega) holds a 1 c [u] (by rw [hsize]; rfl) hn0 (by omega) (by omega) (growslice_fits (by omega) (by rw [hby]; omega))
    have hge := grownCap_ge w (xs.length + 1) cap e
    have hcm2 : grownCap w (xs.length + 1) cap e ≤ maxLen := grownCap_le_maxLen w (xs.length + 1) cap e (by simp only [maxLen]; omega)
    refine ⟨_, _, hr, ⟨w.heap.size, _, _, (0, 0), by simp, hbase, heap_alloc_new w.drew _, fun h => absurd h (by simp), by simpa using hge, hcm2, ?_, ?_⟩, ⟨rfl, rfl, rfl, by simp, fun k hk _ => heap_alloc_old w.drew _ hk⟩⟩
    · simp only [Array.size_append, List.size_toArray, size_zeroCells, hzs]
      simp only [List.length_singleton]
      omega
    · simp only [Array.toList_append, List.append_assoc]
      rw [← List.append_assoc]
      exact List.take_left

theorem wp_append_tail {P : Program} {ops : Array Oper} {rest : List Oper} {o : Oper} {a : Act} {Q : Exit → Act → World → Prop} {w0 W : World} (base : Nat) (hgd : o.guard = none) (s x : Operand) (t e : TypeId) (z : Value)
    (ho : o.op = .call { callee := .builtin .append, args := #[s, x], argTypes := #[t, t] }) (ht : P.underlying t = some (.slice e)) (hinfo : (P.info? e).map (fun i => (i.zero, i.size, i.bytes)) = some (some z, 1, 1)) (hzs : z.cells.size = 1)
    (v : Value) (xs : List Value) (u : Value) (hs : a.eval s = v) (hx : a.eval x = .slice (some ⟨W.heap.size, 0, none⟩) 1 1) (h1 : u.oneCell' = true)
    (HO : OwnT W base e v xs) (HB : Below base w0 W) (hbase : base ≤ W.heap.size) (hl : xs.length ≤ 1000000)
    (h : ∀ v1 w1, OwnT w1 base e v1 (xs ++ [u]) → Below base w0 w1 → wpList P ops Q rest (a.put o.dst v1) w1) : wpList P ops Q (o :: rest) a (W.alloc (.cells #[u] e)) := by
  obtain ⟨i0, hi, hzz⟩ := Option.map_eq_some_iff.1 hinfo
  simp only [Prod.mk.injEq] at hzz
  obtain ⟨hz0, hz1, hz2⟩ := hzz
  have hal : Below W.heap.size W (W.alloc (.cells #[u] e)) := below_alloc (Below.refl _ _) _
  have hu : (W.alloc (.cells #[u] e)).cell? ⟨W.heap.size, 0, none⟩ = some u := by simp
  refine wpList_plain hgd fun K hK => ?_
  obtain ⟨g, hg1, hg2, hg3⟩ := HO.lt
  obtain ⟨v', w', hr, h2, h3⟩ := append_tail (P := P) (W.alloc (.cells #[u] e)) base t o.type e i0 z ht hi hz0 hz1 hz2 hzs v xs (HO.below hal) ⟨W.heap.size, 0, none⟩ 1 u hu h1 hl (Nat.le_trans hbase hal.size)
  unfold Oper.wp execOp
  simp only [ho, resolve, invoke, builtin, Sem.run_bind, Sem.run_pure, Result.andThen_ok, List.map_toArray, List.map_cons, List.map_nil, hs, hx, hr]
  exact hK _ _ (h v' w' h2 ((HB.trans (hal.mono hbase)).grown h3 (Nat.le_trans hbase hal.size) (fun k hk => by rw [hg1] at hk; injection hk with hk; omega)))
/-- The text that such a row is. -/
theorem tail_string {P : Program} {w : World} {base : Nat} {src dst e e' : TypeId} {v : Value} {xs : List Int} (hs : P.underlying src = some (.slice e)) (he : P.underlying e = some (.int .u8)) (hd : P.underlying dst = some .string)
    (h : OwnT w base e' v (encs (fun (x : Int) => Value.int .u8 x) xs)) : (convert src dst v).run P w = .ok (.string (strOfNums xs)) w := by
  have h0 := h
  obtain ⟨g, cap, cur, fz, rfl, hbg, hg, rest⟩ := h
  have hl : (encs (fun (x : Int) => Value.int .u8 x) xs).length = xs.length := encs_length ..
  rw [hl] at h0 ⊢
  refine run_convert_bytes_arg w src e hs he g 0 xs.length cap xs rfl (fun i hi => ?_) dst hd
  have hc := OwnT.cell h0 i (.int .u8 (xs.getD i 0)) (by simp [encs, List.getElem?_eq_getElem hi, List.getD_eq_getElem?_getD])
  rw [Nat.zero_add]
  exact hc
end Go.Proofs.YtcgoaipbfnhjhaaGreatDoor.Pr

/- A row of one's own that begins somewhere in its block: cut at its front, and appended to. -/
namespace Go.Proofs.YtcgoaipbfnhjhaaGreatDoor.Pr
open Go.RowKit Go.Proofs.YtcgoaipbfnhjhaaGreatDoorW.PrintWords Go.Proofs.YtcgoaipbfnhjhaaGreatDoorW.PrintLast Go.Proofs.YtcgoaipbfnhjhaaGreatDoorW.PrintMore
set_option linter.unusedVariables false
set_option linter.unusedSimpArgs false

/-- The row v of one's own, in block g from cell off on, holds xs; its mark touches none of its cells. -/
def OwnO (w : World) (base : Nat) (e : TypeId) (v : Value) (xs : List Value) : Prop :=
  ∃ g off cap cur fz, v = .slice (some ⟨g, off, none⟩) xs.length cap ∧ base ≤ g ∧ w.heap[g]? = some (.cells cur e fz) ∧ (fz.1 < fz.2 → cur.size ≤ fz.1) ∧ xs.length ≤ cap ∧ cap ≤ maxLen ∧ off + cap ≤ cur.size ∧ (cur.toList.drop off).take xs.length = xs
theorem OwnO.lt {w : World} {base : Nat} {e : TypeId} {v : Value} {xs : List Value} (h : OwnO w base e v xs) : ∃ g, v.ownBlock = some g ∧ base ≤ g ∧ g < w.heap.size := by
  obtain ⟨g, off, cap, cur, fz, rfl, hb, hg, _⟩ := h
  exact ⟨g, rfl, hb, (Array.getElem?_eq_some_iff.1 hg).1⟩
theorem OwnO.same {w w' : World} {base : Nat} {e : TypeId} {v : Value} {xs : List Value} (h : OwnO w base e v xs) (hb : ∀ g, v.ownBlock = some g → w'.heap[g]? = w.heap[g]?) : OwnO w' base e v xs := by
  obtain ⟨g, off, cap, cur, fz, hv, hbg, hg, rest⟩ := h
  refine ⟨g, off, cap, cur, fz, hv, hbg, (hb g (by rw [hv]; rfl)).trans hg, rest⟩
theorem OwnO.below {w w' : World} {base : Nat} {e : TypeId} {v : Value} {xs : List Value} (h : OwnO w base e v xs) (hb : Below w.heap.size w w') : OwnO w' base e v xs := by
  obtain ⟨g, h1, h2, h3⟩ := h.lt
  exact h.same fun g' e => by
    rw [h1] at e
    injection e with e
    exact hb.block g' (by omega)
theorem add_off (g off n : Nat) : (⟨g, off, none⟩ : Addr).add n = ⟨g, off + n, none⟩ := by
  unfold Addr.add
  split
  · simp_all
  · rfl
theorem OwnO.cell {w : World} {base : Nat} {e : TypeId} {xs : List Value} {g off n cap : Nat} (h : OwnO w base e (.slice (some ⟨g, off, none⟩) n cap) xs) (j : Nat) (u : Value) (hu : xs[j]? = some u) : w.cell? ⟨g, off + j, none⟩ = some u := by
  obtain ⟨g', off', cap', cur, fz, hv, hbg, hg, hfz, hn, hm, hc, ht⟩ := h
  simp only [Value.slice.injEq, Option.some.injEq, Addr.mk.injEq] at hv
  obtain ⟨⟨rfl, rfl, _⟩, _, _⟩ := hv
  rw [← ht, List.getElem?_take] at hu
  split at hu
  · rw [List.getElem?_drop] at hu
    simp only [World.cell?, hg]
    simpa using hu
  · cases hu
/-- The first cell cut away. -/
theorem OwnO.rest {w : World} {base : Nat} {e : TypeId} {x : Value} {xs : List Value} {g off n cap : Nat} (h : OwnO w base e (.slice (some ⟨g, off, none⟩) n cap) (x :: xs)) : OwnO w base e (.slice (if cap = 1 then some ⟨g, off, none⟩ else some ⟨g, off + 1, none⟩) (n - 1) (cap - 1)) xs := by
  obtain ⟨g', off', cap', cur, fz, hv, hbg, hg, hfz, hn, hm, hc, ht⟩ := h
  simp only [Value.slice.injEq, Option.some.injEq, Addr.mk.injEq] at hv
  obtain ⟨⟨rfl, rfl, _⟩, rfl, rfl⟩ := hv
  rw [List.length_cons] at hn ht ⊢
  by_cases h1 : cap = 1
  · subst h1
    have h0 : xs = [] := List.eq_nil_of_length_eq_zero (by omega)
    subst h0
    exact ⟨g, off, 0, cur, fz, by simp, hbg, hg, hfz, by simp, by omega, by omega, by simp⟩
  · refine ⟨g, off + 1, cap - 1, cur, fz, by rw [if_neg h1]; simp, hbg, hg, hfz, by omega, by omega, by omega, ?_⟩
    have hlt : off < cur.toList.length := by rw [Array.length_toList]; omega
    rw [List.drop_eq_getElem_cons hlt, List.take_succ_cons] at ht
    injection ht
/-- One cell more. -/
theorem append_off {P : Program} (w : World) (base : Nat) (t ty e : TypeId) (i : TypeInfo) (z : Value) (ht : P.underlying t = some (.slice e)) (hi : P.info? e = some i) (hz : i.zero = some z) (hsize : i.size = 1) (hby : i.bytes ≤ 8) (hzs : z.cells.size = 1)
    (v : Value) (xs : List Value) (hown : OwnO w base e v xs) (a : Addr) (c : Nat) (u : Value) (hu : w.cell? a = some u) (h1 : u.oneCell' = true) (hl : xs.length ≤ 1000000) (hbase : base ≤ w.heap.size) :
    ∃ v' w', (Builtin.append_ #[t, t] ty #[v, .slice (some a) 1 c]).run P w = .ok v' w' ∧ OwnO w' base e v' (xs ++ [u]) ∧ w.grownBy w' v.ownBlock ∧ (v'.ownBlock = v.ownBlock ∨ v'.ownBlock = some w.heap.size) := by
  have hn0 : ∀ j u', [u][j]? = some u' → w.cell? (a.add j) = some u' := by
    intro j u' hj
    match j, hj with
    | 0, hj =>
      injection hj with hj
      subst hj
      have : a.add 0 = a := by unfold Addr.add; split <;> simp_all
      rw [this]; exact hu
    | j + 1, hj => simp at hj
  obtain ⟨g, off, cap, cur, fz, rfl, hbg, hg, hfz, hn, hm, hc, htk⟩ := hown
  by_cases hroom : xs.length + 1 ≤ cap
  · have hf := run_firstCells_some (P := P) w i.size 1 a 1 c [u] (by rw [hsize]; rfl) hn0
    have hlt : off + xs.length < cur.size := by omega
    have hadd : (⟨g, off + xs.length, none⟩ : Addr).add 0 = ⟨g, off + xs.length, none⟩ := by unfold Addr.add; split <;> simp_all
    have hadd2 : (⟨g, off, none⟩ : Addr).add (xs.length * 1) = ⟨g, off + xs.length, none⟩ := by rw [Nat.mul_one, add_off]
    have hadd3 : (⟨g, off, none⟩ : Addr).add xs.length = ⟨g, off + xs.length, none⟩ := add_off _ _ _
    have hcell : w.cell? ⟨g, off + xs.length, none⟩ = some cur[off + xs.length] := by simp [World.cell?, hg, hlt]
    have hfro : w.frozen? ⟨g, off + xs.length, none⟩ = false := by
      obtain ⟨lo, hi'⟩ := fz
      simp only [World.frozen?, hg, Bool.and_eq_false_iff, decide_eq_false_iff_not]
      simp only at hfz
      by_cases h : lo < hi'
      · left
        have := hfz h
        omega
      · omega
    have hst : (storeCells ⟨g, off + xs.length, none⟩ [u] 0).run P w = .ok () (w.setRow g (cur.setIfInBounds (off + xs.length) u)) := by
      simp only [storeCells, Sem.run_bind, hadd]
      rw [run_store P w _ u _ h1, hcell]
      simp [hfro, setCell_eq_setRow w g (off + xs.length) cur e fz u hg, Result.andThen]
    refine ⟨.slice (some ⟨g, off, none⟩) (xs.length + 1) cap, w.setRow g (cur.setIfInBounds (off + xs.length) u), ?_, ⟨g, off, cap, _, fz, by simp, hbg, setRow_heap w g cur _ e _ hg, ?_, by simpa using hroom, hm, by simpa using hc, ?_⟩, ⟨rfl, rfl, rfl, by simp, fun k _ hk => setRow_other w g k _ (fun e => hk (by simp [Value.ownBlock, e]))⟩, .inl rfl⟩
    · simp [Builtin.append_, run_underlying ht, sizeOf, typeInfo, hi, hsize, Builtin.lenOf, hroom, hf, hadd2, hadd3, hst]
      rw [hsize] at hf
      rw [hf]
      simp only [Result.andThen]
      rw [hst]
    · intro h
      rw [Array.size_setIfInBounds]
      exact hfz h
    · have hl2 : (xs ++ [u]).length = xs.length + 1 := by simp
      rw [hl2, Array.toList_setIfInBounds]
      have e0 : (cur.toList.set (off + xs.length) u).drop off = (cur.toList.drop off).set xs.length u := by
        rw [List.drop_set, if_neg (by omega)]
        congr 1
        omega
      have e1 : ((cur.toList.drop off).set xs.length u).take (xs.length + 1) = (cur.toList.drop off).take xs.length ++ [u] := by
        rw [List.take_add_one, List.take_set_of_le (Nat.le_refl _), List.getElem?_set_self (by have := Array.length_toList (xs := cur); rw [List.length_drop]; omega)]
        rfl
      rw [e0, e1, htk]
  · have holds : ∀ j u', xs[j]? = some u' → w.cell? ((⟨g, off, none⟩ : Addr).add j) = some u' := by
      intro j u' hj
      rw [add_off]
      exact OwnO.cell (base := base) (n := xs.length) (cap := cap) ⟨g, off, cap, cur, fz, rfl, hbg, hg, hfz, hn, hm, hc, htk⟩ j u' hj
    have hr := run_append_grow (P := P) w t ty e i z ht hi hz ⟨g, off, none⟩ xs.length cap xs (by rw [hsize]; omega) holds a 1 c [u] (by rw [hsize]; rfl) hn0 (by omega) (by omega) (growslice_fits (by omega) (by have := Nat.mul_le_mul (show xs.length + 1 ≤ 1000001 by omega) hby; omega))
    have hge := grownCap_ge w (xs.length + 1) cap e
    have hcm2 : grownCap w (xs.length + 1) cap e ≤ maxLen := grownCap_le_maxLen w (xs.length + 1) cap e (by simp only [maxLen]; omega)
    refine ⟨_, _, hr, ⟨w.heap.size, 0, _, _, (0, 0), by simp, hbase, heap_alloc_new w.drew _, fun h => absurd h (by simp), by simpa using hge, hcm2, ?_, ?_⟩, ⟨rfl, rfl, rfl, by simp, fun k hk _ => heap_alloc_old w.drew _ hk⟩, .inr rfl⟩
    · simp only [Array.size_append, List.size_toArray, size_zeroCells, hzs]
      simp only [List.length_singleton]
      omega
    · simp only [Array.toList_append, List.append_assoc, List.drop_zero]
      rw [← List.append_assoc]
      exact List.take_left

theorem wp_append_off {P : Program} {ops : Array Oper} {rest : List Oper} {o : Oper} {a : Act} {Q : Exit → Act → World → Prop} {w0 W : World} (base : Nat) (hgd : o.guard = none) (s x : Operand) (t e : TypeId) (z : Value) (bz : Nat) (hbz : bz ≤ 8)
    (ho : o.op = .call { callee := .builtin .append, args := #[s, x], argTypes := #[t, t] }) (ht : P.underlying t = some (.slice e)) (hinfo : (P.info? e).map (fun i => (i.zero, i.size, i.bytes)) = some (some z, 1, bz)) (hzs : z.cells.size = 1)
    (v : Value) (xs : List Value) (u : Value) (hs : a.eval s = v) (hx : a.eval x = .slice (some ⟨W.heap.size, 0, none⟩) 1 1) (h1 : u.oneCell' = true)
    (HO : OwnO W base e v xs) (HB : Below base w0 W) (hbase : base ≤ W.heap.size) (hl : xs.length ≤ 1000000)
    (h : ∀ v1 w1, OwnO w1 base e v1 (xs ++ [u]) → Below base w0 w1 → (W.alloc (.cells #[u] e)).grownBy w1 v.ownBlock → (v1.ownBlock = v.ownBlock ∨ ∃ g, v1.ownBlock = some g ∧ W.heap.size ≤ g) → wpList P ops Q rest (a.put o.dst v1) w1) : wpList P ops Q (o :: rest) a (W.alloc (.cells #[u] e)) := by
  obtain ⟨i0, hi, hzz⟩ := Option.map_eq_some_iff.1 hinfo
  simp only [Prod.mk.injEq] at hzz
  obtain ⟨hz0, hz1, hz2⟩ := hzz
  have hal : Below W.heap.size W (W.alloc (.cells #[u] e)) := below_alloc (Below.refl _ _) _
  have hu : (W.alloc (.cells #[u] e)).cell? ⟨W.heap.size, 0, none⟩ = some u := by simp
  refine wpList_plain hgd fun K hK => ?_
  obtain ⟨g, hg1, hg2, hg3⟩ := HO.lt
  obtain ⟨v', w', hr, h2, h3, h4⟩ := append_off (P := P) (W.alloc (.cells #[u] e)) base t o.type e i0 z ht hi hz0 hz1 (by omega) hzs v xs (HO.below hal) ⟨W.heap.size, 0, none⟩ 1 u hu h1 hl (Nat.le_trans hbase hal.size)
  unfold Oper.wp execOp
  simp only [ho, resolve, invoke, builtin, Sem.run_bind, Sem.run_pure, Result.andThen_ok, List.map_toArray, List.map_cons, List.map_nil, hs, hx, hr]
  refine hK _ _ (h v' w' h2 ((HB.trans (hal.mono hbase)).grown h3 (Nat.le_trans hbase hal.size) (fun k hk => by rw [hg1] at hk; injection hk with hk; omega)) h3 ?_)
  rcases h4 with h4 | h4
  · exact .inl h4
  · exact .inr ⟨_, h4, hal.size⟩
end Go.Proofs.YtcgoaipbfnhjhaaGreatDoor.Pr

/- A search that puts letters into two halves finds a way just if there is one. Plain lists, no program. -/
namespace Go.Proofs.YtcgoaipbfnhjhaaGreatDoor.M
set_option linter.unusedVariables false
set_option linter.unusedSimpArgs false

def gtH (h : List Int) (j : Nat) : Int := h.getD j 0
theorem gt_set (h : List Int) (k : Nat) (v : Int) (hk : k < h.length) (j : Nat) : gtH (h.set k v) j = if j = k then v else gtH h j := by
  unfold gtH
  rw [List.getD_eq_getElem?_getD, List.getD_eq_getElem?_getD, List.getElem?_set]
  by_cases e : j = k
  · subst e; simp [hk]
  · rw [if_neg (fun e2 => e e2.symm), if_neg e]
theorem gt_out (h : List Int) (j : Nat) (hj : h.length ≤ j) : gtH h j = 0 := by
  unfold gtH
  rw [List.getD_eq_getElem?_getD, List.getElem?_eq_none hj]
  rfl
theorem count_set0 (h : List Int) (k : Nat) (v : Int) (hk : k < h.length) (h0 : gtH h k = 0) (hv : v ≠ 0) : (h.set k v).count 0 + 1 = h.count 0 := by
  have e : h[k] = 0 := by
    unfold gtH at h0
    rw [List.getD_eq_getElem?_getD, List.getElem?_eq_getElem hk] at h0
    simpa using h0
  have hp : 0 < h.count 0 := List.count_pos_iff.2 (e ▸ List.getElem_mem hk)
  rw [List.count_set hk, e]
  simp [hv]
  omega

section
variable (n : Nat) (E P : Nat → Nat → Bool)
def sgH (i k : Nat) : Int := if P i k = true then -1 else 1
def ValidH (s : Nat → Int) : Prop := (∀ j, s j = 1 ∨ s j = -1) ∧ ∀ a b, a < n → b < n → a ≠ b → E a b = true → s b = s a * sgH P a b
def ConH (h : List Int) (j : Nat) : Prop := ∀ k, k < n → k ≠ j → E j k = true → gtH h k = gtH h j * sgH P j k
def ClosedH (h : List Int) : Prop := ∀ j, j < n → gtH h j ≠ 0 → ConH n E P h j
def PMH (h : List Int) : Prop := ∀ j, gtH h j = 0 ∨ gtH h j = 1 ∨ gtH h j = -1
structure HInv (H0 h : List Int) (ln : List Nat) : Prop where
  len : h.length = n
  pm : PMH h
  old : ∀ j, gtH H0 j ≠ 0 → gtH h j = gtH H0 j
  inl : ∀ i ∈ ln, i < n ∧ gtH h i ≠ 0 ∧ gtH H0 i = 0
  con : ∀ j, j < n → gtH h j ≠ 0 → j ∈ ln ∨ ConH n E P h j
  sgn : ∀ s, ValidH n E P s → ∃ c : Int, (c = 1 ∨ c = -1) ∧ ∀ j, j < n → gtH H0 j = 0 → gtH h j ≠ 0 → gtH h j = c * s j
  room : h.count 0 + ln.length ≤ n
end
theorem sg_pm (P : Nat → Nat → Bool) (i k : Nat) : sgH P i k = 1 ∨ sgH P i k = -1 := by
  unfold sgH
  split <;> simp
theorem pm_mul {a b : Int} (ha : a = 1 ∨ a = -1) (hb : b = 1 ∨ b = -1) : a * b = 1 ∨ a * b = -1 := by
  rcases ha with rfl | rfl <;> rcases hb with rfl | rfl <;> simp

theorem con_set {n : Nat} {E P : Nat → Nat → Bool} {h : List Int} {k : Nat} {v : Int} (hk : k < h.length) (h0 : gtH h k = 0) {j : Nat} (hj : gtH h j ≠ 0) (hc : ConH n E P h j) (hkn : k < n) : ConH n E P (h.set k v) j := by
  intro q hq hqj he
  have e := hc q hq hqj he
  have hjk : j ≠ k := fun e2 => hj (e2 ▸ h0)
  have hsp := sg_pm P j q
  have hne : gtH h q ≠ 0 := by
    rw [e]
    rcases hsp with h | h <;> rw [h] <;> omega
  have hqk : q ≠ k := fun e2 => hne (e2 ▸ h0)
  rw [gt_set h k v hk, gt_set h k v hk, if_neg hqk, if_neg hjk]
  exact e

section
variable {n : Nat} {E P : Nat → Nat → Bool}
variable {RS : Nat → Nat → Nat → List Int → List Nat → Bool → Prop} {RB : Nat → List Int → List Nat → Bool → Prop} {RO : Nat → List Int → Bool → Prop}

theorem scan_ok (symE : ∀ a b, a < n → b < n → E a b = E b a) (symP : ∀ a b, a < n → b < n → P a b = P b a)
    (s_end : ∀ f i h rest r, h.length = n → RB f h rest r → RS f i n h (i :: rest) r)
    (s_skip : ∀ f i k h ln r, i < n → k < n → h.length = n → PMH h → (k = i ∨ E i k = false) → RS f i (k + 1) h ln r → RS f i k h ln r)
    (s_new : ∀ f i k h ln r, i < n → k < n → h.length = n → PMH h → ln.length ≤ n → k ≠ i → E i k = true → gtH h k = 0 → RS f i (k + 1) (h.set k (gtH h i * sgH P i k)) (ln ++ [k]) r → RS f i k h ln r)
    (s_bad : ∀ f i k h ln, i < n → k < n → h.length = n → PMH h → k ≠ i → E i k = true → gtH h k ≠ 0 → gtH h k = -(gtH h i * sgH P i k) → RS f i k h ln false)
    (s_fit : ∀ f i k h ln r, i < n → k < n → h.length = n → PMH h → k ≠ i → E i k = true → gtH h k ≠ 0 → gtH h k ≠ -(gtH h i * sgH P i k) → RS f i (k + 1) h ln r → RS f i k h ln r)
    (f i : Nat) (H0 : List Int) (hcl : ClosedH n E P H0) :
    ∀ (d k : Nat) (h : List Int) (rest : List Nat), k + d = n → HInv n E P H0 h (i :: rest) → (∀ q, q < k → q ≠ i → E i q = true → gtH h q = gtH h i * sgH P i q) →
      (∃ h' rest', HInv n E P H0 h' (i :: rest') ∧ ConH n E P h' i ∧ h'.count 0 + rest'.length = h.count 0 + rest.length ∧ (∀ j, gtH h j ≠ 0 → gtH h' j = gtH h j) ∧ ∀ r, RB f h' rest' r → RS f i k h (i :: rest) r)
      ∨ ((¬ ∃ s, ValidH n E P s) ∧ RS f i k h (i :: rest) false)
  | 0, k, h, rest, hk, hi, hd => by
    obtain rfl : k = n := by omega
    exact .inl ⟨h, rest, hi, fun q hq h1 h2 => hd q hq h1 h2, rfl, fun _ _ => rfl, fun r hr => s_end f i h rest r hi.len hr⟩
  | d + 1, k, h, rest, hk, hi, hd => by
    have hin := hi.inl i (List.mem_cons_self ..)
    have hkn : k < n := by omega
    by_cases hs : k = i ∨ E i k = false
    · rcases scan_ok symE symP s_end s_skip s_new s_bad s_fit f i H0 hcl d (k + 1) h rest (by omega) hi (fun q hq h1 h2 => by
        by_cases e : q = k
        · subst e
          rcases hs with hs | hs
          · exact absurd hs h1
          · rw [hs] at h2; cases h2
        · exact hd q (by omega) h1 h2) with ⟨h', rest', a1, a2, a3, a4, a5⟩ | ⟨a1, a2⟩
      · exact .inl ⟨h', rest', a1, a2, a3, a4, fun r hr => s_skip f i k h _ r hin.1 hkn hi.len hi.pm hs (a5 r hr)⟩
      · exact .inr ⟨a1, s_skip f i k h _ _ hin.1 hkn hi.len hi.pm hs a2⟩
    · have hki : k ≠ i := fun e => hs (.inl e)
      have hE : E i k = true := by
        cases he : E i k with
        | true => rfl
        | false => exact absurd (.inr he) hs
      have hgi : gtH h i = 1 ∨ gtH h i = -1 := by
        rcases hi.pm i with e | e
        · exact absurd e hin.2.1
        · exact e
      have hdue := pm_mul hgi (sg_pm P i k)
      have hlen : k < h.length := by rw [hi.len]; exact hkn
      by_cases h0 : gtH h k = 0
      · have hH0k : gtH H0 k = 0 := by
          by_cases e : gtH H0 k = 0
          · exact e
          · exact absurd (hi.old k e ▸ h0) e
        have hdn : gtH h i * sgH P i k ≠ 0 := by rcases hdue with e | e <;> omega
        have hgs := gt_set h k (gtH h i * sgH P i k) hlen
        have hcs := count_set0 h k (gtH h i * sgH P i k) hlen h0 hdn
        have hik : i ≠ k := fun e => hki e.symm
        have hinv : HInv n E P H0 (h.set k (gtH h i * sgH P i k)) (i :: (rest ++ [k])) := {
          len := by rw [List.length_set]; exact hi.len
          pm := fun j => by
            rw [hgs]
            by_cases e : j = k
            · rw [if_pos e]; exact .inr hdue
            · rw [if_neg e]; exact hi.pm j
          old := fun j hj => by
            rw [hgs, if_neg (fun e : j = k => hj (e ▸ hH0k))]
            exact hi.old j hj
          inl := fun j hj => by
            rw [hgs]
            by_cases e : j = k
            · subst e; rw [if_pos rfl]; exact ⟨hkn, hdn, hH0k⟩
            · rw [if_neg e]
              refine hi.inl j ?_
              simp only [List.mem_cons, List.mem_append, List.not_mem_nil, or_false] at hj ⊢
              rcases hj with h | h | h
              · exact .inl h
              · exact .inr h
              · exact absurd h e
          con := fun j hj hne => by
            rw [hgs] at hne
            by_cases e : j = k
            · subst e; exact .inl (by simp)
            · rw [if_neg e] at hne
              rcases hi.con j hj hne with h | h
              · exact .inl (by simp only [List.mem_cons, List.mem_append] at h ⊢; rcases h with h | h; (· exact .inl h); exact .inr (.inl h))
              · exact .inr (con_set hlen h0 hne h hkn)
          sgn := fun s hsv => by
            obtain ⟨c, hc, hcz⟩ := hi.sgn s hsv
            refine ⟨c, hc, fun j hj hj0 hne => ?_⟩
            rw [hgs] at hne ⊢
            by_cases e : j = k
            · subst e
              rw [if_pos rfl, hcz i hin.1 hin.2.2 hin.2.1, hsv.2 i j hin.1 hj hik hE, Int.mul_assoc]
            · rw [if_neg e] at hne ⊢
              exact hcz j hj hj0 hne
          room := by have := hi.room; simp at this ⊢; omega }
        have hd' : ∀ q, q < k + 1 → q ≠ i → E i q = true → gtH (h.set k (gtH h i * sgH P i k)) q = gtH (h.set k (gtH h i * sgH P i k)) i * sgH P i q := fun q hq h1 h2 => by
          rw [hgs, hgs, if_neg hik]
          by_cases e : q = k
          · subst e; rw [if_pos rfl]
          · rw [if_neg e]; exact hd q (by omega) h1 h2
        have hlr : (i :: rest).length ≤ n := by have := hi.room; omega
        rcases scan_ok symE symP s_end s_skip s_new s_bad s_fit f i H0 hcl d (k + 1) _ (rest ++ [k]) (by omega) hinv hd' with ⟨h', rest', a1, a2, a3, a4, a5⟩ | ⟨a1, a2⟩
        · refine .inl ⟨h', rest', a1, a2, by simp at a3; omega, fun j hj => ?_, fun r hr => s_new f i k h (i :: rest) r hin.1 hkn hi.len hi.pm hlr hki hE h0 (a5 r hr)⟩
          have hjk : j ≠ k := fun e => hj (e ▸ h0)
          have := a4 j (by rw [hgs, if_neg hjk]; exact hj)
          rw [this, hgs, if_neg hjk]
        · exact .inr ⟨a1, s_new f i k h (i :: rest) _ hin.1 hkn hi.len hi.pm hlr hki hE h0 a2⟩
      · by_cases hb : gtH h k = -(gtH h i * sgH P i k)
        · refine .inr ⟨?_, s_bad f i k h _ hin.1 hkn hi.len hi.pm hki hE h0 hb⟩
          rintro ⟨s, hs⟩
          obtain ⟨c, hc, hcs⟩ := hi.sgn s hs
          by_cases hH : gtH H0 k = 0
          · have e1 := hcs k hkn hH h0
            have e2 := hcs i hin.1 hin.2.2 hin.2.1
            have e3 := hs.2 i k hin.1 hkn (fun e => hki e.symm) hE
            have e4 : gtH h k = gtH h i * sgH P i k := by rw [e1, e2, e3, Int.mul_assoc]
            omega
          · have e1 := hcl k hkn hH i hin.1 (fun e => hki e.symm) ((symE k i hkn hin.1).trans hE)
            rw [hin.2.2] at e1
            rcases sg_pm P k i with e | e <;> rw [e] at e1 <;> omega
        · rcases scan_ok symE symP s_end s_skip s_new s_bad s_fit f i H0 hcl d (k + 1) h rest (by omega) hi (fun q hq h1 h2 => by
            by_cases e : q = k
            · subst e
              have hgq : gtH h q = 1 ∨ gtH h q = -1 := by
                rcases hi.pm q with e | e
                · exact absurd e h0
                · exact e
              rcases hgq with e1 | e1 <;> rcases hdue with e2 | e2 <;> omega
            · exact hd q (by omega) h1 h2) with ⟨h', rest', a1, a2, a3, a4, a5⟩ | ⟨a1, a2⟩
          · exact .inl ⟨h', rest', a1, a2, a3, a4, fun r hr => s_fit f i k h _ r hin.1 hkn hi.len hi.pm hki hE h0 hb (a5 r hr)⟩
          · exact .inr ⟨a1, s_fit f i k h _ _ hin.1 hkn hi.len hi.pm hki hE h0 hb a2⟩

theorem bfs_ok (symE : ∀ a b, a < n → b < n → E a b = E b a) (symP : ∀ a b, a < n → b < n → P a b = P b a)
    (b_go : ∀ f h i ln r, i < n → h.length = n → (i :: ln).length ≤ n → RS f i 0 h (i :: ln) r → RB f h (i :: ln) r)
    (s_end : ∀ f i h rest r, h.length = n → RB f h rest r → RS f i n h (i :: rest) r)
    (s_skip : ∀ f i k h ln r, i < n → k < n → h.length = n → PMH h → (k = i ∨ E i k = false) → RS f i (k + 1) h ln r → RS f i k h ln r)
    (s_new : ∀ f i k h ln r, i < n → k < n → h.length = n → PMH h → ln.length ≤ n → k ≠ i → E i k = true → gtH h k = 0 → RS f i (k + 1) (h.set k (gtH h i * sgH P i k)) (ln ++ [k]) r → RS f i k h ln r)
    (s_bad : ∀ f i k h ln, i < n → k < n → h.length = n → PMH h → k ≠ i → E i k = true → gtH h k ≠ 0 → gtH h k = -(gtH h i * sgH P i k) → RS f i k h ln false)
    (s_fit : ∀ f i k h ln r, i < n → k < n → h.length = n → PMH h → k ≠ i → E i k = true → gtH h k ≠ 0 → gtH h k ≠ -(gtH h i * sgH P i k) → RS f i (k + 1) h ln r → RS f i k h ln r)
    (f : Nat) (H0 : List Int) (hcl : ClosedH n E P H0) :
    ∀ (z : Nat) (h : List Int) (ln : List Nat), h.count 0 + ln.length = z → HInv n E P H0 h ln →
      (∃ h', HInv n E P H0 h' [] ∧ (∀ j, gtH h j ≠ 0 → gtH h' j = gtH h j) ∧ ∀ r, RB f h' [] r → RB f h ln r)
      ∨ ((¬ ∃ s, ValidH n E P s) ∧ RB f h ln false) := by
  intro z
  induction z with
  | zero =>
    intro h ln hz hi
    cases ln with
    | nil => exact .inl ⟨h, hi, fun _ _ => rfl, fun r hr => hr⟩
    | cons i rest => simp at hz
  | succ z ih =>
    intro h ln hz hi
    cases ln with
    | nil => exact .inl ⟨h, hi, fun _ _ => rfl, fun r hr => hr⟩
    | cons i rest =>
      have hin := hi.inl i (List.mem_cons_self ..)
      have hlr : (i :: rest).length ≤ n := by have := hi.room; omega
      rcases scan_ok symE symP s_end s_skip s_new s_bad s_fit f i H0 hcl n 0 h rest (by omega) hi (fun q hq => by omega) with ⟨h', rest', a1, a2, a3, a4, a5⟩ | ⟨a1, a2⟩
      · have hinv : HInv n E P H0 h' rest' := { a1 with
          inl := fun j hj => a1.inl j (List.mem_cons_of_mem _ hj)
          con := fun j hj hne => by
            rcases a1.con j hj hne with h | h
            · rcases List.mem_cons.1 h with e | h
              · subst e; exact .inr a2
              · exact .inl h
            · exact .inr h
          room := by have := a1.room; simp at this; omega }
        rcases ih h' rest' (by simp at hz; omega) hinv with ⟨h2, b1, b2, b3⟩ | ⟨b1, b2⟩
        · exact .inl ⟨h2, b1, fun j hj => by rw [← a4 j hj]; exact b2 j (by rw [a4 j hj]; exact hj), fun r hr => b_go f h i rest r hin.1 hi.len hlr (a5 r (b3 r hr))⟩
        · exact .inr ⟨b1, b_go f h i rest _ hin.1 hi.len hlr (a5 _ b2)⟩
      · exact .inr ⟨a1, b_go f h i rest _ hin.1 hi.len hlr a2⟩

theorem halves_ok (symE : ∀ a b, a < n → b < n → E a b = E b a) (symP : ∀ a b, a < n → b < n → P a b = P b a)
    (o_end : ∀ h, h.length = n → RO n h true)
    (o_skip : ∀ f h r, f < n → h.length = n → gtH h f ≠ 0 → RO (f + 1) h r → RO f h r)
    (o_go : ∀ f h r, f < n → h.length = n → gtH h f = 0 → RB f (h.set f 1) [f] r → RO f h r)
    (b_end : ∀ f h r, f < n → h.length = n → RO (f + 1) h r → RB f h [] r)
    (b_go : ∀ f h i ln r, i < n → h.length = n → (i :: ln).length ≤ n → RS f i 0 h (i :: ln) r → RB f h (i :: ln) r)
    (s_end : ∀ f i h rest r, h.length = n → RB f h rest r → RS f i n h (i :: rest) r)
    (s_skip : ∀ f i k h ln r, i < n → k < n → h.length = n → PMH h → (k = i ∨ E i k = false) → RS f i (k + 1) h ln r → RS f i k h ln r)
    (s_new : ∀ f i k h ln r, i < n → k < n → h.length = n → PMH h → ln.length ≤ n → k ≠ i → E i k = true → gtH h k = 0 → RS f i (k + 1) (h.set k (gtH h i * sgH P i k)) (ln ++ [k]) r → RS f i k h ln r)
    (s_bad : ∀ f i k h ln, i < n → k < n → h.length = n → PMH h → k ≠ i → E i k = true → gtH h k ≠ 0 → gtH h k = -(gtH h i * sgH P i k) → RS f i k h ln false)
    (s_fit : ∀ f i k h ln r, i < n → k < n → h.length = n → PMH h → k ≠ i → E i k = true → gtH h k ≠ 0 → gtH h k ≠ -(gtH h i * sgH P i k) → RS f i (k + 1) h ln r → RS f i k h ln r) :
    ∀ (d f : Nat) (h : List Int), f + d = n → h.length = n → PMH h → ClosedH n E P h → (∀ j, j < f → gtH h j ≠ 0) →
      ∃ b : Bool, RO f h b ∧ (b = true ↔ ∃ s, ValidH n E P s)
  | 0, f, h, hf, hl, hp, hcl, hd => by
    obtain rfl : f = n := by omega
    refine ⟨true, o_end h hl, fun _ => ⟨fun j => if gtH h j = -1 then -1 else 1, fun j => by dsimp only; split <;> simp, fun a b ha hb hab he => ?_⟩, fun _ => rfl⟩
    have e := hcl a ha (hd a ha) b hb (fun e => hab e.symm) he
    have v : ∀ j, j < f → (if gtH h j = -1 then (-1 : Int) else 1) = gtH h j := fun j hj => by
      rcases hp j with e | e | e
      · exact absurd e (hd j hj)
      · rw [e]; simp
      · rw [e]; simp
    dsimp only
    rw [v a ha, v b hb]
    exact e
  | d + 1, f, h, hf, hl, hp, hcl, hd => by
    have hfn : f < n := by omega
    by_cases h0 : gtH h f = 0
    · have hlen : f < h.length := by omega
      have hgs := gt_set h f 1 hlen
      have hcs := count_set0 h f 1 hlen h0 (by omega)
      have hcl0 : h.count 0 ≤ n := by rw [← hl]; exact List.count_le_length
      have hinv : HInv n E P h (h.set f 1) [f] := {
        len := by rw [List.length_set]; exact hl
        pm := fun j => by
          rw [hgs]
          split
          · exact .inr (.inl rfl)
          · exact hp j
        old := fun j hj => by rw [hgs, if_neg (fun e : j = f => hj (e ▸ h0))]
        inl := fun j hj => by
          obtain rfl : j = f := by simpa using hj
          exact ⟨hfn, by rw [hgs, if_pos rfl]; omega, h0⟩
        con := fun j hj hne => by
          rw [hgs] at hne
          by_cases e : j = f
          · exact .inl (by simp [e])
          · rw [if_neg e] at hne
            exact .inr (con_set hlen h0 hne (hcl j hj hne) hfn)
        sgn := fun s hs => by
          refine ⟨s f, hs.1 f, fun j hj hj0 hne => ?_⟩
          rw [hgs] at hne ⊢
          by_cases e : j = f
          · subst e
            rw [if_pos rfl]
            rcases hs.1 j with e | e <;> rw [e] <;> rfl
          · rw [if_neg e] at hne
            exact absurd hj0 hne
        room := by simp; omega }
      rcases bfs_ok symE symP b_go s_end s_skip s_new s_bad s_fit f h hcl _ _ _ rfl hinv with ⟨h', b1, b2, b3⟩ | ⟨b1, b2⟩
      · have hcl' : ClosedH n E P h' := fun j hj hne => by
          rcases b1.con j hj hne with h | h
          · simp at h
          · exact h
        obtain ⟨b, hb, hiff⟩ := halves_ok symE symP o_end o_skip o_go b_end b_go s_end s_skip s_new s_bad s_fit d (f + 1) h' (by omega) b1.len b1.pm hcl' (fun j hj => by
          by_cases e : j = f
          · subst e
            rw [b2 j (by rw [hgs, if_pos rfl]; omega), hgs, if_pos rfl]
            omega
          · have hj0 := hd j (by omega)
            rw [b2 j (by rw [hgs, if_neg e]; exact hj0), hgs, if_neg e]
            exact hj0)
        exact ⟨b, o_go f h b hfn hl h0 (b3 b (b_end f h' b hfn b1.len hb)), hiff⟩
      · exact ⟨false, o_go f h false hfn hl h0 b2, by simp; exact fun s hs => b1 ⟨s, hs⟩⟩
    · obtain ⟨b, hb, hiff⟩ := halves_ok symE symP o_end o_skip o_go b_end b_go s_end s_skip s_new s_bad s_fit d (f + 1) h (by omega) hl hp hcl (fun j hj => by
        by_cases e : j = f
        · subst e; exact h0
        · exact hd j (by omega))
      exact ⟨b, o_skip f h b hfn hl h0 hb, hiff⟩
end
end Go.Proofs.YtcgoaipbfnhjhaaGreatDoor.M

/- Steps for functions with a number of rounds: what holds from some number of rounds on. -/
namespace Go.Proofs.YtcgoaipbfnhjhaaGreatDoor.M
open Go.RowKit Go.Proofs.YtcgoaipbfnhjhaaGreatDoorW.PrintWords
set_option linter.unusedVariables false
set_option linter.unusedSimpArgs false

theorem w64 {x : Int} (h0 : -9223372036854775808 ≤ x) (h1 : x ≤ 9223372036854775807) : wrap64 x = x := by
  unfold wrap64
  omega

theorem Ev.pos {α : Type} {c : Prop} [Decidable c] {A B : Nat → Option α} {r : α} (h : c) (e : Ev A r) : Ev (fun k => if c then A k else B k) r := by
  simp only [h, if_true]
  exact e
theorem Ev.neg {α : Type} {c : Prop} [Decidable c] {A B : Nat → Option α} {r : α} (h : ¬ c) (e : Ev B r) : Ev (fun k => if c then A k else B k) r := by
  simp only [h, if_false]
  exact e
theorem Ev.bindc {α β : Type} {o : Option α} {f : Nat → α → Option β} {a : α} {r : β} (h : o = some a) (e : Ev (fun k => f k a) r) : Ev (fun k => o.bind (f k)) r := by
  subst h
  exact e
theorem Ev.bindk {α β : Type} {g : Nat → Option α} {f : Nat → α → Option β} {a : α} {r : β} (h : Ev g a) (e : Ev (fun k => f k a) r) : Ev (fun k => (g k).bind (f k)) r := Ev.bind h e
theorem Ev.val {α : Type} {r r' : α} (h : r = r') : Ev (fun _ => some r) r' := by
  subst h
  exact Ev.now r
/-- Two values of one thing are one. -/
theorem Ev.uniq {α : Type} {g : Nat → Option α} {r r' : α} (h : Ev g r) (h' : Ev g r') : r = r' := by
  obtain ⟨K, h⟩ := h
  obtain ⟨K', h'⟩ := h'
  have e := (h (max K K') (Nat.le_max_left _ _)).symm.trans (h' (max K K') (Nat.le_max_right _ _))
  exact Option.some.inj e

/-- A loop over a list by its index: what is left of the list decides the answer R; P is kept. -/
theorem Ev.scan {α β γ : Type} (L : Nat → Int → β → Option γ) (xs : List α) (R : List α → β → γ) (P : Nat → β → Prop)
    (h0 : ∀ acc, P xs.length acc → Ev (fun k => L k (xs.length : Int) acc) (R [] acc))
    (h1 : ∀ (i : Nat) (h : i < xs.length) (acc : β), P i acc → (∃ acc', P (i + 1) acc' ∧ R (xs[i] :: xs.drop (i + 1)) acc = R (xs.drop (i + 1)) acc' ∧ ∀ r, Ev (fun k => L k ((i : Int) + 1) acc') r → Ev (fun k => L k (i : Int) acc) r)
      ∨ Ev (fun k => L k (i : Int) acc) (R (xs[i] :: xs.drop (i + 1)) acc)) :
    ∀ (d i : Nat) (acc : β), i + d = xs.length → P i acc → Ev (fun k => L k (i : Int) acc) (R (xs.drop i) acc) := by
  intro d
  induction d with
  | zero =>
    intro i acc hi hp
    obtain rfl : i = xs.length := by omega
    rw [List.drop_length]
    exact h0 acc hp
  | succ d ih =>
    intro i acc hi hp
    have hlt : i < xs.length := by omega
    rw [List.drop_eq_getElem_cons hlt]
    rcases h1 i hlt acc hp with ⟨acc', hp', hR, hk⟩ | h
    · rw [hR]
      refine hk _ ?_
      have e := ih (i + 1) acc' (by omega) hp'
      rw [show (((i + 1 : Nat)) : Int) = (i : Int) + 1 from by omega] at e
      exact e
    · exact h
theorem Ev.scan0 {α β γ : Type} (L : Nat → Int → β → Option γ) (xs : List α) (R : List α → β → γ) (P : Nat → β → Prop)
    (h0 : ∀ acc, P xs.length acc → Ev (fun k => L k (xs.length : Int) acc) (R [] acc))
    (h1 : ∀ (i : Nat) (h : i < xs.length) (acc : β), P i acc → (∃ acc', P (i + 1) acc' ∧ R (xs[i] :: xs.drop (i + 1)) acc = R (xs.drop (i + 1)) acc' ∧ ∀ r, Ev (fun k => L k ((i : Int) + 1) acc') r → Ev (fun k => L k (i : Int) acc) r)
      ∨ Ev (fun k => L k (i : Int) acc) (R (xs[i] :: xs.drop (i + 1)) acc)) (acc : β) (hp : P 0 acc) : Ev (fun k => L k 0 acc) (R xs acc) := by
  have e := Ev.scan L xs R P h0 h1 xs.length 0 acc (by omega) hp
  simpa using e

/-- Counting up from i to n. -/
theorem Ev.upto {β γ : Type} (L : Nat → Int → β → Option γ) (n : Int) (R : Int → β → γ) (P : Int → β → Prop)
    (h0 : ∀ i acc, n ≤ i → P i acc → Ev (fun k => L k i acc) (R i acc))
    (h1 : ∀ i acc, i < n → P i acc → (∃ acc', P (i + 1) acc' ∧ R i acc = R (i + 1) acc' ∧ ∀ r, Ev (fun k => L k (i + 1) acc') r → Ev (fun k => L k i acc) r) ∨ Ev (fun k => L k i acc) (R i acc)) :
    ∀ (d : Nat) (i : Int) (acc : β), n ≤ i + d → P i acc → Ev (fun k => L k i acc) (R i acc) := by
  intro d
  induction d with
  | zero => intro i acc hi hp; exact h0 i acc (by omega) hp
  | succ d ih =>
    intro i acc hi hp
    by_cases hlt : i < n
    · rcases h1 i acc hlt hp with ⟨acc', hp', hR, hk⟩ | h
      · rw [hR]
        exact hk _ (ih (i + 1) acc' (by omega) hp')
      · exact h
    · exact h0 i acc (by omega) hp
end Go.Proofs.YtcgoaipbfnhjhaaGreatDoor.M

/- The search for two halves as the program makes it, with a bound on its rounds. Plain lists, no program. -/
namespace Go.Proofs.YtcgoaipbfnhjhaaGreatDoor.M
open Go.RowKit Go.Proofs.YtcgoaipbfnhjhaaGreatDoorW.PrintWords
set_option linter.unusedVariables false
set_option linter.unusedSimpArgs false

section
variable (n : Nat) (E P : Nat → Nat → Bool)
def dueW (h : List Int) (i k : Nat) : Int := if P i k = true then wrap64 (-(gtH h i)) else gtH h i
def scanW (i : Nat) : Nat → Nat → List Int → List Nat → Option (List Int × List Nat)
  | 0, _, h, ln => some (h, ln)
  | d + 1, k, h, ln => if k = i ∨ E i k = false then scanW i d (k + 1) h ln
      else if gtH h k = 0 then scanW i d (k + 1) (h.set k (dueW P h i k)) (ln ++ [k])
      else if gtH h k = wrap64 (-(dueW P h i k)) then none
      else scanW i d (k + 1) h ln
def bfsW : Nat → List Int → List Nat → Option (Option (List Int))
  | _, h, [] => some (some h)
  | 0, _, _ :: _ => none
  | z + 1, h, i :: rest => if 100 < rest.length then none else match scanW E P i n 0 h (i :: rest) with
    | none => some none
    | some p => bfsW z p.1 p.2.tail
def outW (y : Nat) : Nat → Nat → List Int → Option Bool
  | 0, _, _ => some true
  | d + 1, f, h => if gtH h f ≠ 0 then outW y d (f + 1) h else match bfsW n E P y (h.set f 1) [f] with
    | none => none
    | some none => some false
    | some (some h') => outW y d (f + 1) h'
def aftW (y f : Nat) : Option (Option (List Int)) → Option Bool
  | none => none
  | some none => some false
  | some (some h) => outW n E P y (n - (f + 1)) (f + 1) h
def RBw (f : Nat) (h : List Int) (ln : List Nat) (r : Bool) : Prop := ∃ Z, ∀ z y, Z ≤ z → Z ≤ y → aftW n E P y f (bfsW n E P z h ln) = some r
def ROw (f : Nat) (h : List Int) (r : Bool) : Prop := ∃ Z, ∀ y, Z ≤ y → outW n E P y (n - f) f h = some r
def scB (z : Nat) : Option (List Int × List Nat) → Option (Option (List Int))
  | none => some none
  | some p => bfsW n E P z p.1 p.2.tail
def RSw (f i k : Nat) (h : List Int) (ln : List Nat) (r : Bool) : Prop := ∃ Z, ∀ z y, Z ≤ z → Z ≤ y → aftW n E P y f (scB n E P z (scanW E P i (n - k) k h ln)) = some r
end
theorem bfsW_nil (n : Nat) (E P : Nat → Nat → Bool) (z : Nat) (h : List Int) : bfsW n E P z h [] = some (some h) := by cases z <;> rfl
theorem bfsW_cons (n : Nat) (E P : Nat → Nat → Bool) (z : Nat) (h : List Int) (i : Nat) (rest : List Nat) (hr : rest.length ≤ 100) : bfsW n E P (z + 1) h (i :: rest) = scB n E P z (scanW E P i n 0 h (i :: rest)) := by
  rw [bfsW, if_neg (by omega)]
  cases scanW E P i n 0 h (i :: rest) <;> rfl
theorem due_eq {P : Nat → Nat → Bool} {h : List Int} (hp : PMH h) (i k : Nat) : dueW P h i k = gtH h i * sgH P i k ∧ wrap64 (-(dueW P h i k)) = -(gtH h i * sgH P i k) := by
  unfold dueW sgH
  have w1 : wrap64 (-(1 : Int)) = -1 := by unfold wrap64; omega
  have w2 : wrap64 (-(-1 : Int)) = 1 := by unfold wrap64; omega
  have w0 : wrap64 (-(0 : Int)) = 0 := by unfold wrap64; omega
  rcases hp i with e | e | e <;> rw [e] <;> cases P i k <;> simp [w1, show wrap64 (0 : Int) = 0 by unfold wrap64; omega, show wrap64 (1 : Int) = 1 by unfold wrap64; omega]
/-- The search finds a way just if there is one. -/
theorem search_ok {n : Nat} {E P : Nat → Nat → Bool} (hn : n ≤ 100) (symE : ∀ a b, a < n → b < n → E a b = E b a) (symP : ∀ a b, a < n → b < n → P a b = P b a) :
    ∃ b : Bool, ROw n E P 0 (List.replicate n 0) b ∧ (b = true ↔ ∃ s, ValidH n E P s) := by
  have hz : ∀ j, gtH (List.replicate n 0) j = 0 := fun j => by
    unfold gtH
    rw [List.getD_eq_getElem?_getD, List.getElem?_replicate]
    split <;> rfl
  refine halves_ok (RS := RSw n E P) (RB := RBw n E P) (RO := ROw n E P) symE symP ?_ ?_ ?_ ?_ ?_ ?_ ?_ ?_ ?_ ?_ n 0 (List.replicate n 0) (by omega) (by simp) (fun j => .inl (hz j)) (fun j _ h => absurd (hz j) h) (fun j hj => by omega)
  · intro h _
    exact ⟨0, fun y _ => by rw [Nat.sub_self]; rfl⟩
  · rintro f h r hf hl h0 ⟨Z, hZ⟩
    refine ⟨Z, fun y hy => ?_⟩
    rw [show n - f = (n - (f + 1)) + 1 by omega, outW, if_pos h0]
    exact hZ y hy
  · rintro f h r hf hl h0 ⟨Z, hZ⟩
    refine ⟨Z, fun y hy => ?_⟩
    rw [show n - f = (n - (f + 1)) + 1 by omega, outW, if_neg (by simpa using h0)]
    have := hZ y y hy hy
    cases hb : bfsW n E P y (h.set f 1) [f] with
    | none => rw [hb] at this; exact this
    | some o => cases o with
      | none => rw [hb] at this; exact this
      | some h' => rw [hb] at this; exact this
  · rintro f h r hf hl ⟨Z, hZ⟩
    refine ⟨Z, fun z y hz hy => ?_⟩
    rw [bfsW_nil]
    exact hZ y hy
  · rintro f h i ln r hi hl hlen ⟨Z, hZ⟩
    refine ⟨Z + 1, fun z y hz hy => ?_⟩
    obtain ⟨z, rfl⟩ : ∃ z', z = z' + 1 := ⟨z - 1, by omega⟩
    rw [bfsW_cons n E P z h i ln (by simp at hlen; omega)]
    exact hZ z y (by omega) (by omega)
  · rintro f i h rest r hl ⟨Z, hZ⟩
    refine ⟨Z, fun z y hz hy => ?_⟩
    rw [Nat.sub_self, scanW]
    exact hZ z y hz hy
  · rintro f i k h ln r hi hk hl hp hs ⟨Z, hZ⟩
    refine ⟨Z, fun z y hz hy => ?_⟩
    rw [show n - k = (n - (k + 1)) + 1 by omega, scanW, if_pos hs]
    exact hZ z y hz hy
  · rintro f i k h ln r hi hk hl hp hlen hki hE h0 ⟨Z, hZ⟩
    refine ⟨Z, fun z y hz hy => ?_⟩
    rw [show n - k = (n - (k + 1)) + 1 by omega, scanW, if_neg (by rintro (e | e); (· exact hki e); rw [hE] at e; cases e), if_pos h0, (due_eq hp i k).1]
    exact hZ z y hz hy
  · rintro f i k h ln hi hk hl hp hki hE h0 hb
    refine ⟨0, fun z y hz hy => ?_⟩
    rw [show n - k = (n - (k + 1)) + 1 by omega, scanW, if_neg (by rintro (e | e); (· exact hki e); rw [hE] at e; cases e), if_neg h0, (due_eq hp i k).2, if_pos hb]
    rfl
  · rintro f i k h ln r hi hk hl hp hki hE h0 hb ⟨Z, hZ⟩
    refine ⟨Z, fun z y hz hy => ?_⟩
    rw [show n - k = (n - (k + 1)) + 1 by omega, scanW, if_neg (by rintro (e | e); (· exact hki e); rw [hE] at e; cases e), if_neg h0, (due_eq hp i k).2, if_neg hb]
    exact hZ z y hz hy
end Go.Proofs.YtcgoaipbfnhjhaaGreatDoor.M

/- What the program's haveHalves computes: a search for two halves. -/
namespace Go.Proofs.YtcgoaipbfnhjhaaGreatDoor.Pr
open Go.RowKit Go.Proofs.YtcgoaipbfnhjhaaGreatDoorW.PrintWords Go.Proofs.YtcgoaipbfnhjhaaGreatDoorW.PrintLast Go.Proofs.YtcgoaipbfnhjhaaGreatDoorW.PrintMore
set_option linter.unusedVariables false
set_option linter.unusedSimpArgs false

def hvE (w : ByteArray) (i k : Nat) : Bool := (impl_interlaced.f w (97 + (i : Int)) (97 + (k : Int))).getD false
def hvP (w : ByteArray) (i k : Nat) : Bool := Int.tmod ((impl_common.f w (97 + (i : Int)) (97 + (k : Int))).getD 0) 2 == 0
def okAll (w : ByteArray) : Bool := decide (w.size ≤ 16) && ((M.abcL (w.size / 2)).all fun c => okWith w c)
theorem okAll_at {w : ByteArray} (h : okAll w = true) : w.size ≤ 16 ∧ ∀ c ∈ M.abcL (w.size / 2), okWith w c = true := by
  unfold okAll at h
  simpa only [Bool.and_eq_true, decide_eq_true_eq, List.all_eq_true] using h
def impl_haveHalves.f (k : Nat) (a0 : ByteArray) : Option (Bool) :=
  if okAll a0 = true then M.outW (a0.size / 2) (hvE a0) (hvP a0) k (a0.size / 2) 0 (List.replicate (a0.size / 2) 0) else none

def intV (h : List Int) : List Value := h.map fun x => .int .i64 x
def natV (l : List Nat) : List Value := l.map fun (n : Nat) => .int .i64 (n : Int)
/-- Where the search's row of halves and its first iterator stand. -/
structure HavW (base gh ko : Nat) (s : ByteArray) (W0 W : World) (p : Nat) (h : List Int) : Prop where
  below : Below base W0 W
  lo : base ≤ gh
  ord : gh < ko
  sz : ko < W.heap.size
  half : W.heap[gh]? = some (.cells (intV h).toArray 3 (0, 0))
  out : W.heap[ko]? = some (.stringIter s p)
structure LineW (ko ki : Nat) (s : ByteArray) (W : World) (p : Nat) (v : Value) (l : List Nat) : Prop where
  own : OwnO W (ko + 1) 3 v (natV l)
  it : W.heap[ki]? = some (.stringIter s p)
  ne : v.ownBlock ≠ some ki
  hi : ko < ki
theorem HavW.same {base gh ko : Nat} {s : ByteArray} {W0 W W' : World} {p : Nat} {h : List Int} (H : HavW base gh ko s W0 W p h) (hb : Below base W0 W') (hs : W.heap.size ≤ W'.heap.size) (hg : W'.heap[gh]? = W.heap[gh]?) (ho : W'.heap[ko]? = W.heap[ko]?) : HavW base gh ko s W0 W' p h :=
  ⟨hb, H.lo, H.ord, Nat.lt_of_lt_of_le H.sz hs, hg.trans H.half, ho.trans H.out⟩
theorem HavW.base_le {base gh ko : Nat} {s : ByteArray} {W0 W : World} {p : Nat} {h : List Int} (H : HavW base gh ko s W0 W p h) : base ≤ W.heap.size := by
  have := H.lo; have := H.ord; have := H.sz; omega
theorem HavW.go {base gh ko : Nat} {s : ByteArray} {W0 W W' : World} {p : Nat} {h : List Int} (H : HavW base gh ko s W0 W p h) (hb : Below W.heap.size W W') : HavW base gh ko s W0 W' p h :=
  H.same (H.below.trans (hb.mono H.base_le)) hb.size (hb.block gh (by have := H.ord; have := H.sz; omega)) (hb.block ko H.sz)
theorem HavW.cell {base gh ko : Nat} {s : ByteArray} {W0 W : World} {p : Nat} {h : List Int} (H : HavW base gh ko s W0 W p h) (i : Nat) (hi : i < h.length) : W.cell? ⟨gh, i, none⟩ = some (.int .i64 (M.gtH h i)) ∧ W.frozen? ⟨gh, i, none⟩ = false := by
  refine ⟨?_, (by simp [World.frozen?, H.half])⟩
  unfold M.gtH
  simp [World.cell?, H.half, intV, hi, List.getD_eq_getElem?_getD]
theorem HavW.put {base gh ko : Nat} {s : ByteArray} {W0 W : World} {p : Nat} {h : List Int} (H : HavW base gh ko s W0 W p h) (i : Nat) (x : Int) : HavW base gh ko s W0 (W.setCell ⟨gh, i, none⟩ (.int .i64 x)) p (h.set i x) ∧ (W.setCell ⟨gh, i, none⟩ (.int .i64 x)).heap.size = W.heap.size ∧ ∀ g, g ≠ gh → (W.setCell ⟨gh, i, none⟩ (.int .i64 x)).heap[g]? = W.heap[g]? := by
  have e : W.setCell ⟨gh, i, none⟩ (.int .i64 x) = W.setRow gh ((intV h).toArray.setIfInBounds i (.int .i64 x)) := setCell_eq_setRow W gh i _ 3 (0, 0) _ H.half
  have hs : (W.setRow gh ((intV h).toArray.setIfInBounds i (.int .i64 x))).heap.size = W.heap.size := by simp [World.setRow]
  have ho : ∀ g, g ≠ gh → (W.setRow gh ((intV h).toArray.setIfInBounds i (.int .i64 x))).heap[g]? = W.heap[g]? := fun g hg => setRow_other W gh g _ hg
  rw [e]
  refine ⟨⟨H.below.trans ⟨rfl, rfl, rfl, Nat.le_of_eq hs.symm, fun k hk => ho k (by have := H.lo; omega)⟩, H.lo, H.ord, by rw [hs]; exact H.sz, ?_, ?_⟩, hs, ho⟩
  · rw [setRow_heap W gh _ _ 3 _ H.half]
    congr 2
    rw [List.setIfInBounds_toArray]
    unfold intV
    rw [List.map_set]
  · rw [ho ko (by have := H.ord; omega)]
    exact H.out
theorem LineW.same {ko ki : Nat} {s : ByteArray} {W W' : World} {p : Nat} {v : Value} {l : List Nat} (L : LineW ko ki s W p v l) (h : ∀ g, ko < g → g < W.heap.size → W'.heap[g]? = W.heap[g]?) : LineW ko ki s W' p v l := by
  refine ⟨L.own.same fun g hg => ?_, ?_, L.ne, L.hi⟩
  · obtain ⟨g', h1, h2, h3⟩ := L.own.lt
    rw [h1] at hg
    injection hg with hg
    exact h g (by omega) (by omega)
  · have := (Array.getElem?_eq_some_iff.1 L.it).1
    rw [h ki L.hi this]
    exact L.it
theorem LineW.go {ko ki : Nat} {s : ByteArray} {W W' : World} {p : Nat} {v : Value} {l : List Nat} (L : LineW ko ki s W p v l) (hb : Below W.heap.size W W') : LineW ko ki s W' p v l := L.same fun g _ hg => hb.block g hg
theorem LineW.next {ko ki : Nat} {s : ByteArray} {W : World} {p : Nat} {v : Value} {l : List Nat} (L : LineW ko ki s W p v l) (q : Nat) : LineW ko ki s (W.iterAt ki s q) q v l :=
  ⟨L.own.same fun g hg => Lib.iterAt_other W ki g s q (fun e => L.ne (by rw [hg, e])), Lib.iterAt_heap W ki s p q L.it, L.ne, L.hi⟩
theorem HavW.next {base gh ko ki : Nat} {s : ByteArray} {W0 W : World} {p : Nat} {h : List Int} (H : HavW base gh ko s W0 W p h) (hk : ko < ki) (q : Nat) : HavW base gh ko s W0 (W.iterAt ki s q) p h :=
  H.same (Lib.below_iterAt H.below (by have := H.lo; have := H.ord; omega) s q) (Nat.le_of_eq (Lib.iterAt_size W ki s q).symm) (Lib.iterAt_other W ki gh s q (by have := H.ord; omega)) (Lib.iterAt_other W ki ko s q (by omega))
theorem HavW.step {base gh ko : Nat} {s : ByteArray} {W0 W : World} {p : Nat} {h : List Int} (H : HavW base gh ko s W0 W p h) (q : Nat) : HavW base gh ko s W0 (W.iterAt ko s q) q h :=
  ⟨Lib.below_iterAt H.below (by have := H.lo; have := H.ord; omega) s q, H.lo, H.ord, by rw [Lib.iterAt_size]; exact H.sz, (Lib.iterAt_other W ko gh s q (by have := H.ord; omega)).trans H.half, Lib.iterAt_heap W ko s p q H.out⟩

theorem okE {w : ByteArray} {n : Nat} (hn : w.size / 2 = n) (hk : ∀ c ∈ M.abcL n, okWith w c = true) (i k : Nat) (hi : i < n) (hkk : k < n) : impl_interlaced.f w (97 + (i : Int)) (97 + (k : Int)) = some (hvE w i k) := by
  obtain ⟨h1, h2⟩ := okWith_at (hk (97 + (i : Int)) ((M.mem_abc n _).2 (by omega)))
  obtain ⟨b, hb⟩ := h2 (97 + (k : Int)) (by omega) (by omega)
  unfold hvE
  rw [hb]
  rfl
theorem okP {w : ByteArray} {n : Nat} (hn : w.size / 2 = n) (hk : ∀ c ∈ M.abcL n, okWith w c = true) (i k : Nat) (hi : i < n) (hkk : k < n) : ∃ c, impl_common.f w (97 + (i : Int)) (97 + (k : Int)) = some c ∧ hvP w i k = (Int.tmod c 2 == 0) := by
  have h1 := hk (97 + (i : Int)) ((M.mem_abc n _).2 (by omega))
  have h2 := hk (97 + (k : Int)) ((M.mem_abc n _).2 (by omega))
  unfold hvP impl_common.f
  rw [if_pos ⟨h1, h2⟩]
  exact ⟨_, rfl, rfl⟩
theorem lett_byte : ∀ n : Fin 9, (lettS n.val).size = n.val ∧ ∀ i : Fin 8, (h : i.val < (lettS n.val).size) → ((lettS n.val)[i.val]'h).toNat = 97 + i.val := by decide +kernel
theorem LineW.app {ko ki : Nat} {s : ByteArray} {W w1 : World} {p : Nat} {v v1 u : Value} {l : List Nat} {ty : TypeId} (L : LineW ko ki s W p v l) (n : Nat) (ho : OwnO w1 (ko + 1) 3 v1 (natV l ++ [.int .i64 (n : Int)])) (hg : (W.alloc (.cells #[u] ty)).grownBy w1 v.ownBlock) (hv : v1.ownBlock = v.ownBlock ∨ ∃ g, v1.ownBlock = some g ∧ W.heap.size ≤ g) : LineW ko ki s w1 p v1 (l ++ [n]) := by
  have hki := (Array.getElem?_eq_some_iff.1 L.it).1
  refine ⟨by unfold natV at ho ⊢; rw [List.map_append]; exact ho, ?_, ?_, L.hi⟩
  · rw [hg.block ki (Nat.lt_of_lt_of_le hki (below_alloc (Below.refl _ _) _).size) (fun e => L.ne e.symm), heap_alloc_old W _ hki]
    exact L.it
  · rcases hv with e | ⟨g, e, h⟩
    · rw [e]; exact L.ne
    · rw [e]
      simp only [ne_eq, Option.some.injEq]
      omega
theorem HavW.app {base gh ko : Nat} {s : ByteArray} {W0 W w1 : World} {p : Nat} {h : List Int} (H : HavW base gh ko s W0 W p h) (hb : Below (ko + 1) W w1) : HavW base gh ko s W0 w1 p h :=
  H.same (H.below.trans (hb.mono (by have := H.lo; have := H.ord; omega))) hb.size (hb.block gh (by have := H.ord; omega)) (hb.block ko (by omega))
theorem LineW.put {base gh ko ki : Nat} {s : ByteArray} {W0 W : World} {p r : Nat} {v : Value} {l : List Nat} {h : List Int} (L : LineW ko ki s W p v l) (H : HavW base gh ko s W0 W r h) (i : Nat) (x : Int) : LineW ko ki s (W.setCell ⟨gh, i, none⟩ (.int .i64 x)) p v l :=
  L.same fun g hg _ => (H.put i x).2.2 g (by have := H.ord; omega)
theorem alloc_own (W : World) (base : Nat) (hb : base ≤ W.heap.size) (e : TypeId) (u : Value) : OwnO (W.alloc (.cells #[u] e)) base e (.slice (some ⟨W.heap.size, 0, none⟩) 1 1) [u] :=
  ⟨W.heap.size, 0, 1, #[u], (0, 0), rfl, hb, heap_alloc_new W _, fun h => absurd h (by decide), by simp, by simp [maxLen], by simp, by simp⟩
theorem made_zeros (n : Nat) : madeCells (Value.cells (.int .i64 0)) n = (intV (List.replicate n 0)).toArray := by
  unfold madeCells intV
  refine Array.ext (by simp) fun i h1 h2 => ?_
  simp [Value.cells, Nat.mod_one]
theorem info_int' : (Tryz.prog.info? 3).map (fun i => (i.zero, i.size, i.bytes)) = some (some (.int .i64 0), 1, 8) := by kernel_rfl

set_option maxHeartbeats 1000000 in
set_option maxRecDepth 100000 in
theorem impl_haveHalves.calls (k : Nat) (a0 : ByteArray) (r : Bool) (w : World) (h : impl_haveHalves.f k a0 = some r) :
    Calls Tryz.prog 113 #[.string a0] w fun e w' => e = .returned (.bool r) ∧ Below w.heap.size w w' := by
  unfold impl_haveHalves.f at h
  by_cases hq : okAll a0 = true
  · rw [if_pos hq] at h
    obtain ⟨h16, hok⟩ := okAll_at hq
    obtain ⟨n, hn⟩ : ∃ n, a0.size / 2 = n := ⟨_, rfl⟩
    rw [hn] at h hok
    have hn8 : n ≤ 8 := by omega
    have hle : impl_lettersOf.f a0 = some (lettS n) := by
      unfold impl_lettersOf.f
      rw [M.w64 (x := (a0.size : Int) / 2) (by omega) (by omega), if_pos (by omega), if_pos (by omega), show ((a0.size : Int) / 2).toNat = n by omega]
      rfl
    obtain ⟨hls, hlb⟩ := lett_byte ⟨n, by omega⟩
    obtain ⟨s, hs⟩ : ∃ s, s = lettS n := ⟨_, rfl⟩
    rw [← hs] at hle
    have hsz : s.size = n := by rw [hs]; exact hls
    have hby : ∀ (i : Nat) (hi : i < s.size), (s[i]'hi).toNat = 97 + i := by
      intro i hi
      subst hs
      exact hlb ⟨i, by omega⟩ hi
    clear hlb hls hs
    have HL := Aside0.mk (fun (W : World) => impl_lettersOf.calls a0 s W hle)
    have HE := Aside0.mk (fun (i k : Nat) (hi : i < n) (hk : k < n) (W : World) => (impl_interlaced.calls a0 _ _ _ W (okE hn hok i k hi hk)).mono (fun e w' h => (⟨h.1, by obtain ⟨m, hm⟩ := h.2; exact ⟨m, hm⟩⟩ : e = .returned (.bool (hvE a0 i k)) ∧ ∃ m, w' = W.drewN m)))
    have HP := Aside0.mk (fun (i k : Nat) (hi : i < n) (hk : k < n) => okP hn hok i k hi hk)
    have HBY := Aside0.mk hby
    have HH := Aside0.mk (show M.outW n (hvE a0) (hvP a0) k (n - 0) 0 (List.replicate n 0) = some r from h)
    have HB := Aside0.mk (Below.refl w.heap.size w)
    clear h hok hle hby hq
    go_enter Tryz.func113, Tryz.ntmps113
    go_wp2_with (go_at_call 111; refine (HL.out _).mono ?_; rintro e w1 ⟨rfl, ⟨nd, rfl⟩⟩)
    obtain ⟨i0, hi0, hzz⟩ := Option.map_eq_some_iff.1 info_int'
    simp only [Prod.mk.injEq] at hzz
    obtain ⟨hz0, hz1, hz2⟩ := hzz
    rw [run_makeSlice (P := Tryz.prog) (w.drewN nd) 56 3 i0 (.int .i64 0) Tryz.underlying56 hi0 hz0 .i64 .i64 (n : Int) (n : Int) (by omega) (Int.le_refl _) (by rw [hz1]; omega) (by rw [hz2]; omega) (by omega), hz1, Nat.mul_one, Int.toNat_natCast]
    simp only [Result.andThen]
    rw [Oper.upon_value]
    clear hi0 hz0 hz1 hz2
    have hmc : madeCells (Value.cells (.int .i64 0)) n = (intV (List.replicate n 0)).toArray := made_zeros n
    rw [hmc]
    obtain ⟨W1, hW1⟩ : ∃ W1, W1 = (w.drewN nd).alloc (.cells (intV (List.replicate n 0)).toArray 3) := ⟨_, rfl⟩
    obtain ⟨gh, hgh⟩ : ∃ gh, gh = w.heap.size := ⟨_, rfl⟩
    have HG1 := Aside0.mk (show W1.heap[gh]? = some (.cells (intV (List.replicate n 0)).toArray 3 (0, 0)) ∧ W1.heap.size = gh + 1 ∧ Below w.heap.size w W1 by
      subst hW1 hgh
      exact ⟨heap_alloc_new (w.drewN nd) _, by simp [World.alloc], below_alloc (pw_below_drewN (Below.refl _ _) nd) _⟩)
    rw [← hW1]
    clear hW1 hmc HB HL
    go_wp2_with fail
    obtain ⟨ko, hko⟩ : ∃ ko, ko = W1.heap.size := ⟨_, rfl⟩
    have HW := Aside0.mk (show HavW w.heap.size gh ko s w (W1.iter s 0) 0 (List.replicate n 0) by
      obtain ⟨g1, g2, g3⟩ := HG1.out
      have e : (W1.iter s 0).heap = W1.heap.push (.stringIter s 0) := rfl
      refine ⟨g3.alloc (by omega) _, by omega, by omega, by rw [e, Array.size_push]; omega, ?_, ?_⟩
      · rw [e, Array.getElem?_push, if_neg (by omega)]
        exact g1
      · rw [hko]
        exact World.iter_heap W1 s 0)
    rw [← hko, ← hgh]
    clear hko HG1 hgh
    generalize W1.iter s 0 = W2 at HW ⊢
    have hLen : (List.replicate n (0 : Int)).length = n := List.length_replicate
    generalize List.replicate n (0 : Int) = h0 at HW HH hLen
    have HLen := Aside0.mk hLen
    clear hLen
    go_loopg [5, 6, 7, 8, 9] n (fun gg v5 v6 v7 v8 v9 w' => ∃ (p : Nat) (h : List Int), Aside0 (p + gg = n) ∧ Aside0 (HavW w.heap.size gh ko s w w' p h) ∧ Aside0 (h.length = n) ∧ Aside0 (M.outW n (hvE a0) (hvP a0) k (n - p) p h = some r))
    case atStart => exact ⟨0, h0, ⟨by omega⟩, HW, HLen, HH⟩
    case round =>
      obtain ⟨p, h, HG, HW2, HLen2, HH2⟩ := hrel
      clear HW HLen HH
      have HW := HW2
      have HLen := HLen2
      have HH := HH2
      clear HW2 HLen2 HH2
      by_cases hp : p < n
      · obtain ⟨gm, rfl⟩ : ∃ gm, gk = gm + 1 := ⟨gk - 1, by have := HG.out; omega⟩
        have hnext : ∀ ty, (Instr.next (.pointer (some ⟨ko, 0, none⟩)) true ty).run Tryz.prog wr = _ := fun ty => Lib.run_next_ascii_at wr ko s p ty HW.out.out (by omega) (by have := HBY.out p (by omega); omega)
        have HW3 := Aside0.mk (HW.out.step (p + 1))
        clear HW
        generalize wr.iterAt ko s (p + 1) = W3 at hnext HW3
        have hc := HW3.out.cell p (by have := HLen.out; omega)
        have hH := HH.out
        rw [show n - p = (n - (p + 1)) + 1 by omega, M.outW] at hH
        obtain ⟨hc1, hc2⟩ := hc
        have b1 : ((n : Int) ≤ (p : Int)) = False := eq_false (by omega)
        have b2 : (p : Int) < (n : Int) := by omega
        by_cases hz : M.gtH h p = 0
        · rw [if_neg (by simpa using hz)] at hH
          have HH2 := Aside0.mk hH
          rw [hz] at hc1
          have hput := HW3.out.put p 1
          clear hH HH
          go_wp2_with fail
          have hW4 : HavW w.heap.size gh ko s w ((W3.setCell ⟨gh, p, none⟩ (.int .i64 1)).alloc (.cells #[.int .i64 (p : Int)] 3)) (p + 1) (h.set p 1) := hput.1.go (below_alloc (Below.refl _ _) _)
          have hO4 : OwnO ((W3.setCell ⟨gh, p, none⟩ (.int .i64 1)).alloc (.cells #[.int .i64 (p : Int)] 3)) (ko + 1) 3 (.slice (some ⟨W3.heap.size, 0, none⟩) 1 1) (natV [p]) := by
            have := alloc_own (W3.setCell ⟨gh, p, none⟩ (.int .i64 1)) (ko + 1) (by rw [hput.2.1]; have := HW3.out.sz; omega) 3 (.int .i64 (p : Int))
            rwa [hput.2.1] at this
          have HW4 := Aside0.mk hW4
          have HO4 := Aside0.mk hO4
          have HL4 := Aside0.mk (show (h.set p 1).length = n by rw [List.length_set]; exact HLen.out)
          have HR4 := Aside0.mk (show M.aftW n (hvE a0) (hvP a0) k p (M.bfsW n (hvE a0) (hvP a0) k (h.set p 1) [p]) = some r from by
            have e := HH2.out
            revert e
            cases M.bfsW n (hvE a0) (hvP a0) k (h.set p 1) [p] with
            | none => exact id
            | some o => cases o with
              | none => exact id
              | some h' => exact id)
          have HS4 := Aside0.mk (show ∀ j ∈ [p], j < n from fun j hj => by simp at hj; omega)
          clear hput hW4 hO4 HW3 hc1 hc2 HH2 hnext HLen hz
          generalize (W3.setCell ⟨gh, p, none⟩ (.int .i64 1)).alloc (.cells #[.int .i64 (p : Int)] 3) = W4 at HW4 HO4 ⊢
          generalize (Value.slice (some ⟨W3.heap.size, 0, none⟩) 1 1) = v40 at HO4 ⊢
          generalize h.set p 1 = h4 at HW4 HL4 HR4
          generalize [p] = l4 at HO4 HR4 HS4
          go_loopg [6, 7, 8, 9] k (fun gg v6 v7 v8 v9 w' => ∃ (h : List Int) (ln : List Nat), Aside0 (HavW w.heap.size gh ko s w w' (p + 1) h) ∧ Aside0 (h.length = n) ∧ Aside0 (OwnO w' (ko + 1) 3 v6 (natV ln)) ∧ Aside0 (∀ j ∈ ln, j < n) ∧ Aside0 (M.aftW n (hvE a0) (hvP a0) k p (M.bfsW n (hvE a0) (hvP a0) gg h ln) = some r))
          case atStart => exact ⟨h4, l4, HW4, HL4, HO4, HS4, HR4⟩
          case round =>
            obtain ⟨h, ln, HW, HLen, HO, HS, HR⟩ := hrel
            clear HW4 HO4 HL4 HR4 HS4
            obtain ⟨g, off, cap, cur, fz, rfl, hO⟩ := HO.out
            clear hO
            cases ln with
            | nil =>
              have HH2 := Aside0.mk (show M.outW n (hvE a0) (hvP a0) k (n - (p + 1)) (p + 1) h = some r by
                have e := HR.out
                rw [M.bfsW_nil] at e
                exact e)
              clear HR HO HS
              go_wp2_with fail
              go_roundg gm
              case measure => omega
              case rel => exact ⟨p + 1, h, ⟨by have := HG.out; omega⟩, HW, HLen, HH2⟩
            | cons i rest =>
              have hR := HR.out
              obtain ⟨z, rfl⟩ : ∃ z, gk = z + 1 := by
                cases gk with
                | zero => exact absurd hR (by simp [M.bfsW, M.aftW])
                | succ z => exact ⟨z, rfl⟩
              have hrl : rest.length ≤ 100 := by
                by_cases hc : 100 < rest.length
                · exfalso
                  rw [M.bfsW, if_pos hc] at hR
                  exact absurd hR (by simp [M.aftW])
                · omega
              rw [M.bfsW_cons _ _ _ _ _ _ _ hrl] at hR
              have HR2 := Aside0.mk (show M.aftW n (hvE a0) (hvP a0) k p (M.scB n (hvE a0) (hvP a0) z (M.scanW (hvE a0) (hvP a0) i (n - 0) 0 h (i :: rest))) = some r from hR)
              have hin : i < n := HS.out i (List.mem_cons_self ..)
              have hcl : wr.cell? ⟨g, off, none⟩ = some (.int .i64 (i : Int)) := by
                have := OwnO.cell HO.out 0 (.int .i64 (i : Int)) rfl
                rwa [Nat.add_zero] at this
              have hln : (natV (i :: rest)).length = rest.length + 1 := by simp [natV]
              rw [hln] at HO ⊢
              have b3 : ((0 : Int) < ((rest.length + 1 : Nat) : Int)) := by omega
              have b4 : (((rest.length + 1 : Nat) : Int) ≤ 0) = False := eq_false (by omega)
              clear hR HR
              go_wp2_with fail
              have hki : wr.heap.size = wr.heap.size := rfl
              obtain ⟨hg1, hg2, hg3⟩ : ko + 1 ≤ g ∧ g < wr.heap.size ∧ True := by
                obtain ⟨g', e1, e2, e3⟩ := HO.out.lt
                simp only [Value.ownBlock, Option.some.injEq] at e1
                subst e1
                exact ⟨e2, e3, trivial⟩
              have hph : (wr.iter s 0).heap = wr.heap.push (.stringIter s 0) := rfl
              have hold : ∀ q, q < wr.heap.size → (wr.iter s 0).heap[q]? = wr.heap[q]? := fun q hq => by rw [hph, Array.getElem?_push, if_neg (by omega)]
              have HW5 := Aside0.mk (show HavW w.heap.size gh ko s w (wr.iter s 0) (p + 1) h from HW.out.same (HW.out.below.alloc HW.out.base_le (.stringIter s 0)) (show wr.heap.size ≤ (wr.iter s 0).heap.size by rw [hph, Array.size_push]; omega) (hold gh (by have := HW.out.ord; have := HW.out.sz; omega)) (hold ko HW.out.sz))
              have HLi5 := Aside0.mk (show LineW ko wr.heap.size s (wr.iter s 0) 0 (.slice (some ⟨g, off, none⟩) (rest.length + 1) cap) (i :: rest) from
                ⟨HO.out.same fun q hq => by (simp only [Value.ownBlock, Option.some.injEq] at hq; subst hq; exact hold g hg2), World.iter_heap wr s 0, by simp only [Value.ownBlock, ne_eq, Option.some.injEq]; omega, HW.out.sz⟩)
              have HT5 := Aside0.mk (show ∃ t, i :: rest = i :: t from ⟨rest, rfl⟩)
              have HN5 := Aside0.mk (show (i :: rest).length ≤ 101 + 0 by simp; omega)
              clear hki hg1 hg2 hg3 hph hold HW HO hcl b3 b4 hln
              generalize wr.heap.size = ki at HLi5 ⊢
              generalize wr.iter s 0 = W5 at HW5 HLi5 ⊢
              generalize (Value.slice (some ⟨g, off, none⟩) (rest.length + 1) cap) = v60 at HLi5 ⊢
              generalize i :: rest = l6 at HLi5 HT5 HN5 HR2 HS
              go_loopg [6, 8, 9] n (fun gg v6 v8 v9 w' => ∃ (q : Nat) (h : List Int) (ln : List Nat), Aside0 (q + gg = n) ∧ Aside0 (HavW w.heap.size gh ko s w w' (p + 1) h) ∧ Aside0 (h.length = n) ∧ Aside0 (LineW ko ki s w' q v6 ln) ∧ Aside0 (∃ t, ln = i :: t) ∧ Aside0 (∀ j ∈ ln, j < n) ∧ Aside0 (ln.length ≤ 101 + q) ∧ Aside0 (M.aftW n (hvE a0) (hvP a0) k p (M.scB n (hvE a0) (hvP a0) z (M.scanW (hvE a0) (hvP a0) i (n - q) q h ln)) = some r))
              case atStart => exact ⟨0, h, l6, ⟨by omega⟩, HW5, HLen, HLi5, HT5, HS, HN5, HR2⟩
              case round =>
                clear HW5 HLen HLi5 HT5 HS HN5 HR2
                obtain ⟨q, h, ln, HGq, HW, HLen, HLi, HT, HS, HN, HR⟩ := hrel
                by_cases hqn : q < n
                · obtain ⟨gn, rfl⟩ : ∃ gn, gk = gn + 1 := ⟨gk - 1, by have := HGq.out; omega⟩
                  have hnext : ∀ ty, (Instr.next (.pointer (some ⟨ki, 0, none⟩)) true ty).run Tryz.prog wr = _ := fun ty => Lib.run_next_ascii_at wr ki s q ty HLi.out.it (by omega) (by have := HBY.out q (by omega); omega)
                  have HW2 := Aside0.mk (HW.out.next HLi.out.hi (q + 1))
                  have HLi2 := Aside0.mk (HLi.out.next (q + 1))
                  clear HW HLi
                  generalize wr.iterAt ki s (q + 1) = W6 at hnext HW2 HLi2
                  have hR := HR.out
                  rw [show n - q = (n - (q + 1)) + 1 by omega, M.scanW] at hR
                  have c1 : (((s[i]'(by omega)).toNat : Nat) : Int) = 97 + (i : Int) := by have := HBY.out i (by omega); omega
                  have c2 : (((s[q]'(by omega)).toNat : Nat) : Int) = 97 + (q : Int) := by have := HBY.out q (by omega); omega
                  have HE1 := Aside0.mk (fun (W : World) => HE.out i q hin hqn W)
                  have d1 : (i : Int) < (s.size : Int) := by omega
                  have d2 : (q : Int) < (s.size : Int) := by omega
                  by_cases hqi : q = i
                  · have e1 : ((q : Int) == (i : Int)) = true := beq_iff_eq.2 (by omega)
                    rw [if_pos (.inl hqi)] at hR
                    have HR2 := Aside0.mk hR
                    clear hR HR hqi
                    go_wp2_with fail
                    go_quiet (fail)
                    go_wp2_with fail
                    go_roundg gn
                    case measure => omega
                    case rel => exact ⟨q + 1, h, ln, ⟨by have := HGq.out; omega⟩, ⟨HW2.out.go (pw_below_drewN (Below.refl _ _) nq)⟩, HLen, ⟨HLi2.out.go (pw_below_drewN (Below.refl _ _) nq)⟩, HT, HS, ⟨by have := HN.out; omega⟩, HR2⟩
                  · have e1 : ((q : Int) == (i : Int)) = false := beq_eq_false_iff_ne.2 (by omega)
                    cases hE : hvE a0 i q with
                    | false =>
                      rw [if_pos (.inr hE)] at hR
                      rw [hE] at HE1
                      have HR2 := Aside0.mk hR
                      clear hR HR hqi hE
                      go_wp2_with fail
                      go_quiet ((go_at_call 92; exact Calls.quiet_of (HE1.out _)))
                      go_wp2_with fail
                      go_roundg gn
                      case measure => omega
                      case rel => exact ⟨q + 1, h, ln, ⟨by have := HGq.out; omega⟩, ⟨HW2.out.go (pw_below_drewN (Below.refl _ _) nq)⟩, HLen, ⟨HLi2.out.go (pw_below_drewN (Below.refl _ _) nq)⟩, HT, HS, ⟨by have := HN.out; omega⟩, HR2⟩
                    | true =>
                      rw [hE] at HE1
                      rw [if_neg (by rintro (e | e); (· exact hqi e); rw [hE] at e; cases e)] at hR
                      have HR2 := Aside0.mk hR
                      obtain ⟨c, hc1, hc2⟩ := HP.out i q hin hqn
                      have HC := Aside0.mk (fun (W : World) => impl_common.calls a0 _ _ c W hc1)
                      have HCP := Aside0.mk hc2
                      clear hR HR hE hc1 hc2
                      go_wp2_with fail
                      go_quiet ((go_at_call 92; exact Calls.quiet_of (HE1.out _)))
                      have HW3 := Aside0.mk (HW2.out.go (pw_below_drewN (Below.refl _ _) nq))
                      have HLi3 := Aside0.mk (HLi2.out.go (pw_below_drewN (Below.refl _ _) nq))
                      clear HW2 HLi2
                      generalize W6.drewN nq = W7 at HW3 HLi3 ⊢
                      have hci := (HW3.out.cell i (by have := HLen.out; omega)).1
                      have b5 : ((n : Int) ≤ (i : Int)) = False := eq_false (by omega)
                      have b6 : (i : Int) < (n : Int) := by omega
                      go_wp2_with fail
                      go_region_held3 (fun w' => Below W7.heap.size W7 w')
                        ((first | assumption | exact Below.refl _ _ | exact below_drew (Below.refl _ _) | exact below_drew (by assumption) | exact below_keep (by assumption) (by assumption) | (simp [*]; done)))
                        (first | (go_at_call 112; refine (HC.out _).mono ?_; rintro e w8 ⟨rfl, hb8⟩))
                      all_goals
                        rename_i hx8
                        have HW4 := Aside0.mk (HW3.out.go hx8)
                        have HLi4 := Aside0.mk (HLi3.out.go hx8)
                        clear HW3 HLi3 hb8 hx8 hci hnext
                        obtain ⟨hq1, hq2⟩ := HW4.out.cell q (by have := HLen.out; omega)
                        have hput := Aside0.mk (fun (x : Int) => HW4.out.put q x)
                        have b7 : ((n : Int) ≤ (q : Int)) = False := eq_false (by omega)
                        have b8 : (q : Int) < (n : Int) := by omega
                      all_goals
                        cases hcp : (Int.tmod c 2 == 0) with
                        | true =>
                          have HD := HCP.out
                          rw [hcp] at HD
                          have HD2 : M.dueW (hvP a0) h i q = wrap64 (-(M.gtH h i)) := by unfold M.dueW; rw [HD]; rfl
                          have hR := HR2.out
                          rw [HD2] at hR
                          clear HD HD2 HCP HR2
                          by_cases hz0 : M.gtH h q = 0
                          · rw [if_pos hz0] at hR
                            have HR3 := Aside0.mk hR
                            clear hR
                            have e2 : (M.gtH h q == 0) = true := beq_iff_eq.2 hz0
                            obtain ⟨due, hdue⟩ : ∃ d, d = wrap64 (-(M.gtH h i)) := ⟨_, rfl⟩
                            rw [← hdue] at HR3
                            have hp1 := HW4.out.put q due
                            have HW9 := Aside0.mk hp1.1
                            have HL9 := Aside0.mk (HLi4.out.put HW4.out q due)
                            have HS9 := Aside0.mk hp1.2.1
                            rw [hdue] at HW9 HL9 HS9
                            have hll : (natV ln).length ≤ 1000000 := by have := HN.out; simp [natV]; omega
                            have HLL := Aside0.mk hll
                            have HKO := Aside0.mk (show ko + 1 ≤ w8.heap.size from HW4.out.sz)
                            clear hp1 HW4 HLi4 hput hz0 hll
                            go_wp2_with (first | ((with_reducible refine gate_builtin (b := .append) (xs := #[.tmp 83, .tmp 85]) rfl ?_); at_builtin; refine wp_append_off (w0 := _) (ko + 1) rfl (.tmp 83) (.tmp 85) 56 3 (.int .i64 0) 8 (by omega) rfl Tryz.underlying56 info_int' rfl u6 (natV ln) _ rfl (by rw [HS9.out]; rfl) rfl HL9.out.own (Below.refl _ _) (by rw [HS9.out]; exact HKO.out) HLL.out ?_; intro v11 w11 ho hb hgb hov; have HO11 := Aside0.mk (HL9.out.app q ho hgb hov); have HW11 := Aside0.mk (HW9.out.app hb); clear ho hb hgb hov))
                            subst hdue
                            go_roundg gn
                            case measure => omega
                            case rel => exact ⟨q + 1, _, ln ++ [q], ⟨by have := HGq.out; omega⟩, HW11, ⟨by rw [List.length_set]; exact HLen.out⟩, HO11, ⟨by obtain ⟨t, ht⟩ := HT.out; exact ⟨t ++ [q], by rw [ht]; rfl⟩⟩, ⟨fun j hj => by rcases List.mem_append.1 hj with hj | hj; (· exact HS.out j hj); simp at hj; omega⟩, ⟨by have := HN.out; simp; omega⟩, HR3⟩
                          · rw [if_neg hz0] at hR
                            have e2 : (M.gtH h q == 0) = false := beq_eq_false_iff_ne.2 hz0
                            by_cases hbd : M.gtH h q = wrap64 (-wrap64 (-(M.gtH h i)))
                            · rw [if_pos hbd] at hR
                              obtain rfl : r = false := by
                                have e := hR
                                simp only [M.scB, M.aftW, Option.some.injEq] at e
                                exact e.symm
                              have e3 : (M.gtH h q == wrap64 (-wrap64 (-(M.gtH h i)))) = true := beq_iff_eq.2 hbd
                              clear hR hz0 hbd
                              go_wp2_with fail
                              go_ret
                              exact ⟨rfl, HW4.out.below⟩
                            · rw [if_neg hbd] at hR
                              have HR3 := Aside0.mk hR
                              have e3 : (M.gtH h q == wrap64 (-wrap64 (-(M.gtH h i)))) = false := beq_eq_false_iff_ne.2 hbd
                              clear hR hz0 hbd
                              go_wp2_with fail
                              go_roundg gn
                              case measure => omega
                              case rel => exact ⟨q + 1, h, ln, ⟨by have := HGq.out; omega⟩, HW4, HLen, HLi4, HT, HS, ⟨by have := HN.out; omega⟩, HR3⟩
                        | false =>
                          have HD := HCP.out
                          rw [hcp] at HD
                          have HD2 : M.dueW (hvP a0) h i q = M.gtH h i := by unfold M.dueW; rw [HD]; rfl
                          have hR := HR2.out
                          rw [HD2] at hR
                          clear HD HD2 HCP HR2
                          by_cases hz0 : M.gtH h q = 0
                          · rw [if_pos hz0] at hR
                            have HR3 := Aside0.mk hR
                            clear hR
                            have e2 : (M.gtH h q == 0) = true := beq_iff_eq.2 hz0
                            obtain ⟨due, hdue⟩ : ∃ d, d = M.gtH h i := ⟨_, rfl⟩
                            rw [← hdue] at HR3
                            have hp1 := HW4.out.put q due
                            have HW9 := Aside0.mk hp1.1
                            have HL9 := Aside0.mk (HLi4.out.put HW4.out q due)
                            have HS9 := Aside0.mk hp1.2.1
                            rw [hdue] at HW9 HL9 HS9
                            have hll : (natV ln).length ≤ 1000000 := by have := HN.out; simp [natV]; omega
                            have HLL := Aside0.mk hll
                            have HKO := Aside0.mk (show ko + 1 ≤ w8.heap.size from HW4.out.sz)
                            clear hp1 HW4 HLi4 hput hz0 hll
                            go_wp2_with (first | ((with_reducible refine gate_builtin (b := .append) (xs := #[.tmp 83, .tmp 85]) rfl ?_); at_builtin; refine wp_append_off (w0 := _) (ko + 1) rfl (.tmp 83) (.tmp 85) 56 3 (.int .i64 0) 8 (by omega) rfl Tryz.underlying56 info_int' rfl u6 (natV ln) _ rfl (by rw [HS9.out]; rfl) rfl HL9.out.own (Below.refl _ _) (by rw [HS9.out]; exact HKO.out) HLL.out ?_; intro v11 w11 ho hb hgb hov; have HO11 := Aside0.mk (HL9.out.app q ho hgb hov); have HW11 := Aside0.mk (HW9.out.app hb); clear ho hb hgb hov))
                            subst hdue
                            go_roundg gn
                            case measure => omega
                            case rel => exact ⟨q + 1, _, ln ++ [q], ⟨by have := HGq.out; omega⟩, HW11, ⟨by rw [List.length_set]; exact HLen.out⟩, HO11, ⟨by obtain ⟨t, ht⟩ := HT.out; exact ⟨t ++ [q], by rw [ht]; rfl⟩⟩, ⟨fun j hj => by rcases List.mem_append.1 hj with hj | hj; (· exact HS.out j hj); simp at hj; omega⟩, ⟨by have := HN.out; simp; omega⟩, HR3⟩
                          · rw [if_neg hz0] at hR
                            have e2 : (M.gtH h q == 0) = false := beq_eq_false_iff_ne.2 hz0
                            by_cases hbd : M.gtH h q = wrap64 (-(M.gtH h i))
                            · rw [if_pos hbd] at hR
                              obtain rfl : r = false := by
                                have e := hR
                                simp only [M.scB, M.aftW, Option.some.injEq] at e
                                exact e.symm
                              have e3 : (M.gtH h q == wrap64 (-(M.gtH h i))) = true := beq_iff_eq.2 hbd
                              clear hR hz0 hbd
                              go_wp2_with fail
                              go_ret
                              exact ⟨rfl, HW4.out.below⟩
                            · rw [if_neg hbd] at hR
                              have HR3 := Aside0.mk hR
                              have e3 : (M.gtH h q == wrap64 (-(M.gtH h i))) = false := beq_eq_false_iff_ne.2 hbd
                              clear hR hz0 hbd
                              go_wp2_with fail
                              go_roundg gn
                              case measure => omega
                              case rel => exact ⟨q + 1, h, ln, ⟨by have := HGq.out; omega⟩, HW4, HLen, HLi4, HT, HS, ⟨by have := HN.out; omega⟩, HR3⟩
                · have hnext : ∀ ty, (Instr.next (.pointer (some ⟨ki, 0, none⟩)) true ty).run Tryz.prog wr = _ := fun ty => Lib.run_next_end_at wr ki s q ty HLi.out.it (by omega)
                  have hR := HR.out
                  rw [show n - q = 0 by omega, M.scanW] at hR
                  obtain ⟨t, ht⟩ := HT.out
                  subst ht
                  have HR2 := Aside0.mk (show M.aftW n (hvE a0) (hvP a0) k p (M.bfsW n (hvE a0) (hvP a0) z h t) = some r from hR)
                  obtain ⟨g', off', cap', cur', fz', hv, hO'⟩ := HLi.out.own
                  have hO := HLi.out.own
                  have hnl : (natV (i :: t)).length = t.length + 1 := by simp [natV]
                  rw [hnl] at hv
                  subst hv
                  have hrest := OwnO.rest (x := .int .i64 (i : Int)) (xs := natV t) hO
                  have HS2 := Aside0.mk (show ∀ j ∈ t, j < n from fun j hj => HS.out j (List.mem_cons_of_mem _ hj))
                  have hcap : t.length + 1 ≤ cap' := by have := hO'.2.2.2.1; rwa [hnl] at this
                  clear hR HR hO hO' HS HN hnl
                  by_cases hc1 : cap' = 1
                  · subst hc1
                    have ht0 : t = [] := List.eq_nil_of_length_eq_zero (by omega)
                    subst ht0
                    rw [if_pos rfl] at hrest
                    have HO2 := Aside0.mk (show OwnO wr (ko + 1) 3 (.slice (some ⟨g', off', none⟩) 0 0) (natV []) from hrest)
                    clear hrest
                    go_wp2_with fail
                    go_roundg z
                    case measure => omega
                    case rel => exact ⟨h, _, HW, HLen, HO2, HS2, HR2⟩
                  · rw [if_neg hc1, Nat.add_sub_cancel] at hrest
                    have HO2 := Aside0.mk hrest
                    clear hrest
                    go_wp2_with fail
                    go_roundg z
                    case measure => omega
                    case rel => exact ⟨h, _, HW, HLen, HO2, HS2, HR2⟩
        · rw [if_pos hz] at hH
          have HH2 := Aside0.mk hH
          have e1 : (M.gtH h p != 0) = true := by simpa using hz
          generalize M.gtH h p = y at hc1 e1
          clear hH HH hz
          go_wp2_with fail
          go_roundg gm
          case measure => omega
          case rel => exact ⟨p + 1, h, ⟨by have := HG.out; omega⟩, HW3, HLen, HH2⟩
      · have hnext : ∀ ty, (Instr.next (.pointer (some ⟨ko, 0, none⟩)) true ty).run Tryz.prog wr = _ := fun ty => Lib.run_next_end_at wr ko s p ty HW.out.out (by omega)
        have hH := HH.out
        rw [show n - p = 0 by omega, M.outW] at hH
        obtain rfl := Option.some.inj hH
        clear hH HH
        go_wp2_with fail
        go_ret
        exact ⟨rfl, HW.out.below⟩
  · rw [if_neg hq] at h
    cases h
end Go.Proofs.YtcgoaipbfnhjhaaGreatDoor.Pr

/- What the program's isEvenLoop computes. -/
namespace Go.Proofs.YtcgoaipbfnhjhaaGreatDoor.Pr
open Go.RowKit Go.Proofs.YtcgoaipbfnhjhaaGreatDoorW.PrintWords Go.Proofs.YtcgoaipbfnhjhaaGreatDoorW.PrintLast Go.Proofs.YtcgoaipbfnhjhaaGreatDoorW.PrintMore
set_option linter.unusedVariables false
set_option linter.unusedSimpArgs false

/-- Whether a letter is interlaced with an odd number of others. -/
def oddB (w : ByteArray) (c : Int) : Bool := (((strOfNums (M.lettP (withB w c) 97 (w.size / 2))).size : Int) % 2 == 1)
def impl_isEvenLoop.f (a0 : ByteArray) : Option (Bool) := if decide (a0.size ≤ 16) && ((M.abcL (a0.size / 2)).all fun c => okWith a0 c) then some ((strOfNums (M.lettP (oddB a0) 97 (a0.size / 2))).toList.isEmpty) else none

set_option maxHeartbeats 4000000 in
theorem even_pred (w0 : ByteArray) (c : Int) (hk : okWith w0 c = true) (B : Nat) (W : World) (h1 : W.cell? ⟨B, 0, none⟩ = some (.string w0)) :
    Calls Tryz.prog 118 #[.int .u8 c, .pointer (some ⟨B, 0, none⟩)] W fun e w' => e = .returned (.bool (oddB w0 c)) ∧ Below W.heap.size W w' := by
  unfold oddB
  have HI := Aside0.mk (fun (W1 : World) => impl_interlacedWith.calls w0 c _ W1 (if_pos hk))
  generalize strOfNums (M.lettP (withB w0 c) 97 (w0.size / 2)) = s at HI ⊢
  clear hk
  go_enter Tryz.func118, Tryz.ntmps118
  go_wp2_with (go_at_call 91; refine (HI.out _).mono ?_; rintro e w' ⟨rfl, hb⟩)
  go_ret
  exact ⟨rfl, hb⟩

set_option maxHeartbeats 4000000 in
theorem impl_isEvenLoop.calls (a0 : ByteArray) (r : Bool) (w : World) (h : impl_isEvenLoop.f a0 = some r) :
    Calls Tryz.prog 80 #[.string a0] w fun e w' => e = .returned (.bool r) ∧ Below w.heap.size w w' := by
  unfold impl_isEvenLoop.f at h
  by_cases hk : (decide (a0.size ≤ 16) && ((M.abcL (a0.size / 2)).all fun c => okWith a0 c)) = true
  · rw [if_pos hk] at h
    simp only [Bool.and_eq_true, decide_eq_true_eq, List.all_eq_true] at hk
    obtain ⟨h16, hall⟩ := hk
    obtain rfl := Option.some.inj h
    have eg : ∀ args w, (callFunc 118 args).run Tryz.prog w = .ok (.enter 118 args) w := enters_of Tryz.func118 (by kernel_rfl) rfl
    have hb0 : Below w.heap.size w (w.alloc (.cells #[.string a0] 9)) := below_alloc (Below.refl _ _) _
    have hs0 : w.heap.size < (w.alloc (.cells #[.string a0] 9)).heap.size := by simp
    have hx0 : (w.alloc (.cells #[.string a0] 9)).cell? ⟨w.heap.size, 0, none⟩ = some (.string a0) := by simp
    have hL := Aside0.mk (lettersWith_calls a0 (a0.size / 2) rfl (by omega) (oddB a0) 118 #[.pointer (some ⟨w.heap.size, 0, none⟩)] eg (w.alloc (.cells #[.string a0] 9))
      (fun W2 x h1 h2 hb => even_pred a0 x (hall x ((M.mem_abc _ x).2 ⟨h1, h2⟩)) w.heap.size W2 ((hb.cell (p := ⟨w.heap.size, 0, none⟩) hs0).trans hx0)))
    generalize strOfNums (M.lettP (oddB a0) 97 (a0.size / 2)) = s at hL h
    have HB0 := Aside0.mk hb0
    clear h eg hx0 hs0 hall hb0
    go_enter Tryz.func80, Tryz.ntmps80
    go_wp2_with (go_at_call 82; refine hL.out.mono ?_; rintro e w' ⟨rfl, hb⟩)
    go_ret
    exact ⟨rfl, HB0.out.trans (hb.mono (by simp))⟩
  · rw [if_neg hk] at h; cases h
end Go.Proofs.YtcgoaipbfnhjhaaGreatDoor.Pr

/- What the program's canBeDrawn computes. -/
namespace Go.Proofs.YtcgoaipbfnhjhaaGreatDoor.Pr
open Go.RowKit Go.Proofs.YtcgoaipbfnhjhaaGreatDoorW.PrintWords Go.Proofs.YtcgoaipbfnhjhaaGreatDoorW.PrintLast Go.Proofs.YtcgoaipbfnhjhaaGreatDoorW.PrintMore
set_option linter.unusedVariables false
set_option linter.unusedSimpArgs false

/-- Two letters that keep a loop from being drawn. -/
def pairBad (w : ByteArray) (i j : Nat) : Bool := decide (i < j) && !(hvE w i j) && (Int.tmod ((impl_common.f w (97 + (i : Int)) (97 + (j : Int))).getD 0) 2 == 1)
def anyBad (w : ByteArray) (n : Nat) : Bool := (List.range n).any fun i => (List.range n).any fun j => pairBad w i j
def impl_canBeDrawn.f (k : Nat) (a0 : ByteArray) : Option (Bool) :=
  (impl_isEvenLoop.f a0).bind fun e => if e = true then (if okAll a0 = true then (if anyBad a0 (a0.size / 2) = true then some false else impl_haveHalves.f k a0) else none) else some false
theorem outW_mono (n : Nat) (E P : Nat → Nat → Bool) : ∀ (z : Nat) (h : List Int) (l : List Nat), LeO (M.bfsW n E P z h l) (M.bfsW n E P (z + 1) h l)
  | z, h, [] => by rw [M.bfsW_nil, M.bfsW_nil]; exact LeO.refl _
  | 0, h, i :: rest => LeO.none _
  | z + 1, h, i :: rest => by
    rw [M.bfsW, M.bfsW]
    refine LeO.ite (LeO.refl _) ?_
    cases M.scanW E P i n 0 h (i :: rest) with
    | none => exact LeO.refl _
    | some p => exact outW_mono n E P z _ _
theorem outW_mono2 (n : Nat) (E P : Nat → Nat → Bool) (y : Nat) : ∀ (d f : Nat) (h : List Int), LeO (M.outW n E P y d f h) (M.outW n E P (y + 1) d f h)
  | 0, f, h => LeO.refl _
  | d + 1, f, h => by
    rw [M.outW, M.outW]
    refine LeO.ite (outW_mono2 n E P y d (f + 1) h) ?_
    have hb := outW_mono n E P y (h.set f 1) [f]
    cases e : M.bfsW n E P y (h.set f 1) [f] with
    | none => exact LeO.none _
    | some o =>
      rw [hb _ e]
      cases o with
      | none => exact LeO.refl _
      | some h' => exact outW_mono2 n E P y d (f + 1) h'
theorem impl_haveHalves.mono : ∀ a0 k, LeO (impl_haveHalves.f k a0) (impl_haveHalves.f (k + 1) a0) := by
  intro a0 k
  unfold impl_haveHalves.f
  exact LeO.ite (outW_mono2 _ _ _ _ _ _ _) (LeO.refl _)
theorem impl_canBeDrawn.mono : ∀ a0 k, LeO (impl_canBeDrawn.f k a0) (impl_canBeDrawn.f (k + 1) a0) := by
  intro a0 k
  unfold impl_canBeDrawn.f
  exact LeO.bind (LeO.refl _) (fun _ => LeO.ite (LeO.ite (LeO.ite (LeO.refl _) (impl_haveHalves.mono _ _)) (LeO.refl _)) (LeO.refl _))

theorem bytes_cells (W : World) (s : ByteArray) (hs : s.size ≤ 1000) (j : Nat) (hj : j < s.size) : (Lib.bytesWorld W 5 s).cell? ⟨W.heap.size, j, none⟩ = some (.int .u8 ((s[j]'hj).toNat : Int)) := by
  have hc0 := bytes_C W 5 s (by omega)
  have hl := bytesOf_length s
  obtain ⟨ad, e1, hc⟩ := hc0.2.2 (by omega)
  injection e1 with e1
  subst e1
  have hg : (bytesOf s)[j]? = some ((s[j]'hj).toNat : Int) := by
    unfold bytesOf
    rw [List.getElem?_map, Array.getElem?_toList]
    show Option.map _ s.data[j]? = _
    rw [Array.getElem?_eq_getElem hj]
    rfl
  obtain ⟨cs_, h1, h2, h3⟩ := hc j _ hg
  have h4 := h3 0 (.int .u8 ((s[j]'hj).toNat : Int)) (by rw [show cs_ = [Value.int .u8 ((s[j]'hj).toNat : Int)] from h2]; rfl)
  have ha : (⟨W.heap.size, 0, none⟩ : Addr).add (j * (Kd.int .u8).sz + 0) = ⟨W.heap.size, j, none⟩ := by
    rw [add_plain]
    show (⟨W.heap.size, j * 1 + 0, none⟩ : Addr) = _
    rw [show j * 1 + 0 = j by omega]
  rwa [ha] at h4
/-- A text's letters, in a block of their own. -/
structure LetW (B n : Nat) (W : World) : Prop where
  lt : B < W.heap.size
  at_ : ∀ q : Nat, q < n → W.cell? ⟨B, q, none⟩ = some (.int .u8 (97 + (q : Int)))
theorem LetW.go {B n : Nat} {W W' : World} (L : LetW B n W) (hb : Below W.heap.size W W') : LetW B n W' :=
  ⟨Nat.lt_of_lt_of_le L.lt hb.size, fun q hq => (hb.cell (p := ⟨B, q, none⟩) L.lt).trans (L.at_ q hq)⟩
theorem let_bytes (W : World) (s : ByteArray) (n : Nat) (hs : s.size = n) (hn : n ≤ 8) (hby : ∀ (i : Nat) (hi : i < s.size), (s[i]'hi).toNat = 97 + i) : LetW W.heap.size n (Lib.bytesWorld W 5 s) := by
  refine ⟨by rw [Lib.bytesWorld_size]; omega, fun q hq => ?_⟩
  rw [bytes_cells W s (by omega) q (by omega)]
  have := hby q (by omega)
  congr 2
  omega
theorem anyBad_none {w : ByteArray} {n : Nat} (h : ∀ i j, i < n → j < n → pairBad w i j = false) : anyBad w n = false := by
  unfold anyBad
  rw [List.any_eq_false]
  intro i hi
  rw [Bool.not_eq_true, List.any_eq_false]
  intro j hj
  rw [Bool.not_eq_true]
  exact h i j (List.mem_range.1 hi) (List.mem_range.1 hj)
theorem anyBad_some {w : ByteArray} {n : Nat} {i j : Nat} (hi : i < n) (hj : j < n) (h : pairBad w i j = true) : anyBad w n = true := by
  unfold anyBad
  exact List.any_eq_true.2 ⟨i, List.mem_range.2 hi, List.any_eq_true.2 ⟨j, List.mem_range.2 hj, h⟩⟩

set_option maxHeartbeats 2000000 in
set_option maxRecDepth 100000 in
theorem impl_canBeDrawn.calls (k : Nat) (a0 : ByteArray) (r : Bool) (w : World) (h : impl_canBeDrawn.f k a0 = some r) :
    Calls Tryz.prog 68 #[.string a0] w fun e w' => e = .returned (.bool r) ∧ Below w.heap.size w w' := by
  obtain ⟨ev, hev, h⟩ := Option.bind_eq_some_iff.mp h
  have HEv := Aside0.mk (fun (W : World) => impl_isEvenLoop.calls a0 ev W hev)
  have HB := Aside0.mk (Below.refl w.heap.size w)
  cases ev with
  | false =>
    rw [if_neg (by decide)] at h
    obtain rfl := Option.some.inj h
    clear h hev
    go_enter Tryz.func68, Tryz.ntmps68
    go_wp2_with (go_at_call 80; refine (HEv.out _).mono ?_; rintro e w1 ⟨rfl, hb⟩)
    go_ret
    exact ⟨rfl, hb⟩
  | true =>
    rw [if_pos rfl] at h
    by_cases hq : okAll a0 = true
    · rw [if_pos hq] at h
      obtain ⟨h16, hok⟩ := okAll_at hq
      obtain ⟨n, hn⟩ : ∃ n, a0.size / 2 = n := ⟨_, rfl⟩
      rw [hn] at h hok
      have hn8 : n ≤ 8 := by omega
      have hle : impl_lettersOf.f a0 = some (lettS n) := by
        unfold impl_lettersOf.f
        rw [M.w64 (x := (a0.size : Int) / 2) (by omega) (by omega), if_pos (by omega), if_pos (by omega), show ((a0.size : Int) / 2).toNat = n by omega]
        rfl
      obtain ⟨hls, hlb⟩ := lett_byte ⟨n, by omega⟩
      obtain ⟨s, hs⟩ : ∃ s, s = lettS n := ⟨_, rfl⟩
      rw [← hs] at hle
      have hsz : s.size = n := by rw [hs]; exact hls
      have hby : ∀ (i : Nat) (hi : i < s.size), (s[i]'hi).toNat = 97 + i := by
        intro i hi
        subst hs
        exact hlb ⟨i, by omega⟩ hi
      have HLB := Aside0.mk (fun (W : World) => let_bytes W s n hsz hn8 hby)
      clear hlb hls hs hby
      have HL := Aside0.mk (fun (W : World) => impl_lettersOf.calls a0 s W hle)
      have HE := Aside0.mk (fun (i k : Nat) (hi : i < n) (hk : k < n) (W : World) => impl_interlaced.calls a0 _ _ _ W (okE hn hok i k hi hk))
      have HP := Aside0.mk (fun (i j : Nat) (hi : i < n) (hj : j < n) => (show ∃ c, (∀ W : World, Calls Tryz.prog 112 #[.string a0, .int .u8 (97 + (i : Int)), .int .u8 (97 + (j : Int))] W fun e w' => e = .returned (.int .i64 c) ∧ Below W.heap.size W w') ∧ pairBad a0 i j = (decide (i < j) && !(hvE a0 i j) && (Int.tmod c 2 == 1)) by
        obtain ⟨c, hc, _⟩ := okP hn hok i j hi hj
        refine ⟨c, fun W => impl_common.calls a0 _ _ c W hc, ?_⟩
        unfold pairBad
        rw [hc]
        rfl))
      have HH := Aside0.mk h
      clear h hok hle hev hq
      go_enter Tryz.func68, Tryz.ntmps68
      go_wp2_with (first | (go_at_call 80; refine (HEv.out _).mono ?_; rintro e w1 ⟨rfl, hb1⟩; have n0_ := Aside0.mk (below_keep hb1 HB.out); clear HB; have HB := n0_; clear n0_ hb1) | (go_at_call 111; refine (HL.out _).mono ?_; rintro e w2 ⟨rfl, ⟨nd, rfl⟩⟩; have n0_ := Aside0.mk (pw_below_drewN HB.out nd); clear HB; have HB := n0_; clear n0_))
      rw [print_bytes 9 22 5 Tryz.underlying9 Tryz.underlying22 Tryz.underlying5]
      simp only [Result.andThen]
      rw [Oper.upon_value, hsz]
      have HLe := Aside0.mk (HLB.out (w1.drewN nd))
      have HB2 := Aside0.mk (bytes_below HB.out (HB.out.size) 5 s)
      clear HB
      generalize Lib.bytesWorld (w1.drewN nd) 5 s = W1 at HLe HB2 ⊢
      generalize (w1.drewN nd).heap.size = B1 at HLe ⊢
      generalize grownCap (w1.drewN nd) n 0 5 = cp
      have HA := Aside0.mk (fun (i j : Nat) (hi : i < 0) (hj : j < n) => show pairBad a0 i j = false from absurd hi (Nat.not_lt_zero _))
      go_wp2_with fail
      go_loopg [4, 6, 14] n (fun gg v4 v6 v14 w' => ∃ (i : Nat), v14 = .int .i64 i ∧ Aside0 (i + gg = n) ∧ Aside0 (LetW B1 n w') ∧ Aside0 (Below w.heap.size w w') ∧ Aside0 (∀ i' j : Nat, i' < i → j < n → pairBad a0 i' j = false))
      case atStart => exact ⟨0, by first | rfl | (simp; done), ⟨by omega⟩, HLe, HB2, HA⟩
      case round =>
        obtain ⟨i, rfl, HG, HLe2, HB, HA2⟩ := hrel
        clear HLe HB2 HA
        by_cases hi : i < n
        · have e4 : decide ((i : Int) < (n : Int)) = true := decide_eq_true (by omega)
          have e5 : decide (i < n) = true := decide_eq_true hi
          obtain ⟨gm, rfl⟩ : ∃ gm, gk = gm + 1 := ⟨gk - 1, by have := HG.out; omega⟩
          have h0 := HLe2.out.at_ i hi
          have b1 : ((n : Int) ≤ (i : Int)) = False := eq_false (by omega)
          have b2 : (i : Int) < (n : Int) := by omega
          go_wp2_with (go_at_call 111; refine (HL.out _).mono ?_; rintro e w2 ⟨rfl, ⟨nd2, rfl⟩⟩)
          rw [print_bytes 9 22 5 Tryz.underlying9 Tryz.underlying22 Tryz.underlying5]
          simp only [Result.andThen]
          rw [Oper.upon_value, hsz]
          have HLi := Aside0.mk (HLB.out (wr.drewN nd2))
          have hb3 : Below wr.heap.size wr (Lib.bytesWorld (wr.drewN nd2) 5 s) := bytes_below (pw_below_drewN (Below.refl _ _) nd2) (Nat.le_refl _) 5 s
          have HB3 := Aside0.mk (below_keep hb3 HB.out)
          have HLo := Aside0.mk (HLe2.out.go hb3)
          clear HB HLe2 hb3 h0
          generalize Lib.bytesWorld (wr.drewN nd2) 5 s = W2 at HLi HB3 HLo ⊢
          generalize (wr.drewN nd2).heap.size = B2 at HLi ⊢
          generalize grownCap (wr.drewN nd2) n 0 5 = cp2
          have HA3 := Aside0.mk (fun (j : Nat) (hj : j < 0) => show pairBad a0 i j = false from absurd hj (Nat.not_lt_zero _))
          go_wp2_with fail
          go_loopg [6, 22] n (fun gg v6 v22 w' => ∃ (j : Nat), v22 = .int .i64 j ∧ Aside0 (j + gg = n) ∧ Aside0 (LetW B1 n w') ∧ Aside0 (LetW B2 n w') ∧ Aside0 (Below w.heap.size w w') ∧ Aside0 (∀ j' : Nat, j' < j → pairBad a0 i j' = false))
          case atStart => exact ⟨0, by first | rfl | (simp; done), ⟨by omega⟩, HLo, HLi, HB3, HA3⟩
          case round =>
            obtain ⟨j, rfl, HGj, HLo2, HLi2, HB, HA4⟩ := hrel
            clear HLo HLi HB3 HA3
            by_cases hj : j < n
            · have f4 : decide ((j : Int) < (n : Int)) = true := decide_eq_true (by omega)
              have f5 : decide (j < n) = true := decide_eq_true hj
              obtain ⟨gn, rfl⟩ : ∃ gn, gk = gn + 1 := ⟨gk - 1, by have := HGj.out; omega⟩
              have h1 := HLi2.out.at_ j hj
              have b3 : ((n : Int) ≤ (j : Int)) = False := eq_false (by omega)
              have b4 : (j : Int) < (n : Int) := by omega
              have HE1 := Aside0.mk (fun (W : World) => HE.out i j hi hj W)
              obtain ⟨c, hc1, hc2⟩ := HP.out i j hi hj
              have HC := Aside0.mk hc1
              have HPB := Aside0.mk hc2
              clear hc1 hc2
              by_cases hij : i < j
              · have e6 : decide (97 + (i : Int) < 97 + (j : Int)) = true := decide_eq_true (by omega)
                cases hE : hvE a0 i j with
                | true =>
                  rw [hE] at HE1
                  have HA5 := Aside0.mk (fun (j' : Nat) (hj' : j' < j + 1) => show pairBad a0 i j' = false from by
                    by_cases e : j' = j
                    · subst e
                      rw [HPB.out, hE]
                      simp
                    · exact HA4.out j' (by omega))
                  clear hE HPB
                  go_wp2_with (go_at_call 92; refine (HE1.out _).mono ?_; rintro e w3 ⟨rfl, ⟨nd3, rfl⟩⟩)
                  go_roundg gn
                  case measure => omega
                  case rel => exact ⟨j + 1, by first | rfl | (simp; done), ⟨by have := HGj.out; omega⟩, ⟨HLo2.out.go (pw_below_drewN (Below.refl _ _) nd3)⟩, ⟨HLi2.out.go (pw_below_drewN (Below.refl _ _) nd3)⟩, ⟨pw_below_drewN HB.out nd3⟩, HA5⟩
                | false =>
                  rw [hE] at HE1
                  cases hcp : (Int.tmod c 2 == 1) with
                  | true =>
                    have hbad : anyBad a0 n = true := anyBad_some hi hj (by rw [HPB.out, hE, hcp, decide_eq_true hij]; rfl)
                    obtain rfl : r = false := by
                      have e := HH.out
                      rw [if_pos hbad] at e
                      exact (Option.some.inj e).symm
                    clear hE HPB hbad
                    go_wp2_with (first | (go_at_call 92; refine (HE1.out _).mono ?_; rintro e w3 ⟨rfl, ⟨nd3, rfl⟩⟩; have n0_ := Aside0.mk (pw_below_drewN HB.out nd3); clear HB; have HB := n0_; clear n0_) | (go_at_call 112; refine (HC.out _).mono ?_; rintro e w4 ⟨rfl, hb4⟩; have n0_ := Aside0.mk (below_keep hb4 HB.out); clear HB; have HB := n0_; clear n0_))
                    go_ret
                    exact ⟨rfl, HB.out⟩
                  | false =>
                    have HA5 := Aside0.mk (fun (j' : Nat) (hj' : j' < j + 1) => show pairBad a0 i j' = false from by
                      by_cases e : j' = j
                      · subst e
                        rw [HPB.out, hcp]
                        simp
                      · exact HA4.out j' (by omega))
                    clear hE HPB
                    go_wp2_with (first | (go_at_call 92; refine (HE1.out _).mono ?_; rintro e w3 ⟨rfl, ⟨nd3, rfl⟩⟩) | (go_at_call 112; refine (HC.out _).mono ?_; rintro e w4 ⟨rfl, hb4⟩))
                    have hb5 : Below wr.heap.size wr w4 := (pw_below_drewN (Below.refl _ _) nd3).trans hb4
                    go_roundg gn
                    case measure => omega
                    case rel => exact ⟨j + 1, by first | rfl | (simp; done), ⟨by have := HGj.out; omega⟩, ⟨HLo2.out.go hb5⟩, ⟨HLi2.out.go hb5⟩, ⟨below_keep hb5 HB.out⟩, HA5⟩
              · have e6 : decide (97 + (i : Int) < 97 + (j : Int)) = false := decide_eq_false (by omega)
                have HA5 := Aside0.mk (fun (j' : Nat) (hj' : j' < j + 1) => show pairBad a0 i j' = false from by
                  by_cases e : j' = j
                  · subst e
                    rw [HPB.out, decide_eq_false hij]
                    simp
                  · exact HA4.out j' (by omega))
                clear HPB
                go_wp2_with fail
                go_roundg gn
                case measure => omega
                case rel => exact ⟨j + 1, by first | rfl | (simp; done), ⟨by have := HGj.out; omega⟩, HLo2, HLi2, HB, HA5⟩
            · have f4 : decide ((j : Int) < (n : Int)) = false := decide_eq_false (by omega)
              have f5 : decide (j < n) = false := decide_eq_false hj
              have HA5 := Aside0.mk (fun (i' j' : Nat) (hi' : i' < i + 1) (hj' : j' < n) => show pairBad a0 i' j' = false from by
                by_cases e : i' = i
                · subst e
                  exact HA4.out j' (by have := HGj.out; omega)
                · exact HA2.out i' j' (by omega) hj')
              go_wp2_with fail
              go_roundg gm
              case measure => omega
              case rel => exact ⟨i + 1, by first | rfl | (simp; done), ⟨by have := HG.out; omega⟩, HLo2, HB, HA5⟩
        · have e4 : decide ((i : Int) < (n : Int)) = false := decide_eq_false (by omega)
          have e5 : decide (i < n) = false := decide_eq_false hi
          have hgood : anyBad a0 n = false := anyBad_none (fun i' j h1 h2 => HA2.out i' j (by have := HG.out; omega) h2)
          have hH := HH.out
          rw [hgood, if_neg (by decide)] at hH
          have HC := Aside0.mk (fun (W : World) => impl_haveHalves.calls k a0 r W hH)
          clear hH hgood
          go_wp2_with (go_at_call 113; refine (HC.out _).mono ?_; rintro e w3 ⟨rfl, hb3⟩)
          go_ret
          exact ⟨rfl, below_keep hb3 HB.out⟩
    · rw [if_neg hq] at h
      cases h
end Go.Proofs.YtcgoaipbfnhjhaaGreatDoor.Pr

-- Written by a program for this claim.
namespace Go.Proofs.YtcgoaipbfnhjhaaGreatDoor.Pr
open Go.RowKit Go.Proofs.YtcgoaipbfnhjhaaGreatDoorW.PrintWords Go.Proofs.YtcgoaipbfnhjhaaGreatDoorW.PrintLast Go.Proofs.YtcgoaipbfnhjhaaGreatDoorW.PrintMore
attribute [local go_sem] max2_int min2_int max_two min_two max_three min_three max_four min_four   -- for this text's walks alone
set_option linter.unusedVariables false
set_option linter.unusedSimpArgs false

/-! ### impl_CountDrawn: function 16 -/
def impl_CountDrawn.l0 : Nat → Int → List ByteArray → Int → Int → Option (Int × Bool)
  | 0, _, _, _, _ => none
  | k + 1, x4, x11, x12, x13 => if x13 < x12 then (if 0 ≤ x13 then (if x13 < (x11.length : Int) then ((impl_canBeDrawn.f k (rdOf ByteArray.empty x11 x13)).bind fun t185 => (if t185 = true then (impl_CountDrawn.l0 k (wrap64 (x4 + 1)) x11 x12 (wrap64 (x13 + 1))) else (impl_CountDrawn.l0 k x4 x11 x12 (wrap64 (x13 + 1))))) else (none)) else (none)) else (some (x4, true))
def impl_CountDrawn.f (k : Nat) (a0 : Int) : Option (Int × Bool) := (impl_within.f a0 0 4).bind fun t180 => (if t180 = true then ((impl_allLoops.f k a0).bind fun t181 => (impl_CountDrawn.l0 k 0 t181 (t181.length : Int) 0)) else (some (0, false)))
theorem impl_CountDrawn.mono_l : ∀ k, (∀ y0 y1 y2 y3, LeO (impl_CountDrawn.l0 k y0 y1 y2 y3) (impl_CountDrawn.l0 (k + 1) y0 y1 y2 y3))
  | 0 => fun _ _ _ _ r h => by simp [impl_CountDrawn.l0] at h
  | k + 1 => by
    have ih0 := impl_CountDrawn.mono_l k
    · intro y0 y1 y2 y3
      unfold impl_CountDrawn.l0
      repeat' first
      | (with_reducible exact ih0 _ _ _ _)
      | (with_reducible exact impl_allLoops.mono _ _)
      | (with_reducible exact impl_canBeDrawn.mono _ _)
      | (with_reducible exact LeO.refl _)
      | (with_reducible exact LeO.none _)
      | (with_reducible refine LeO.ite ?_ ?_)
      | (with_reducible refine LeO.bind ?_ (fun _ => ?_))
      | exact ih0 _ _ _ _
      | exact impl_allLoops.mono _ _
      | exact impl_canBeDrawn.mono _ _
      | exact LeO.none _
      | refine LeO.ite ?_ ?_
      | refine LeO.bind ?_ (fun _ => ?_)
theorem impl_CountDrawn.mono : ∀ a0 k, LeO (impl_CountDrawn.f k a0) (impl_CountDrawn.f (k + 1) a0) := by
  intro a0 k
  have ih0 := impl_CountDrawn.mono_l k
  unfold impl_CountDrawn.f
  repeat' first
      | (with_reducible exact ih0 _ _ _ _)
      | (with_reducible exact impl_allLoops.mono _ _)
      | (with_reducible exact impl_canBeDrawn.mono _ _)
      | (with_reducible exact LeO.refl _)
      | (with_reducible exact LeO.none _)
      | (with_reducible refine LeO.ite ?_ ?_)
      | (with_reducible refine LeO.bind ?_ (fun _ => ?_))
      | exact ih0 _ _ _ _
      | exact impl_allLoops.mono _ _
      | exact impl_canBeDrawn.mono _ _
      | exact LeO.none _
      | refine LeO.ite ?_ ?_
      | refine LeO.bind ?_ (fun _ => ?_)
set_option maxHeartbeats 8000000 in
set_option maxRecDepth 100000 in
theorem impl_CountDrawn.calls (k : Nat) (a0 : Int) (r1 : Int) (r2 : Bool) (w : World) (h : impl_CountDrawn.f k a0 = some (r1, r2)) :
    Calls Tryz.prog 16 #[.int .i64 a0] w fun e w' => e = .returned (.tuple #[.int .i64 r1, .bool r2]) ∧ Below w.heap.size w w' := by
  have HB := Aside0.mk (Below.refl w.heap.size w)
  have H : ((impl_within.f a0 0 4).bind fun t180 => (if t180 = true then ((impl_allLoops.f k a0).bind fun t181 => (impl_CountDrawn.l0 k 0 t181 (t181.length : Int) 0)) else (some (0, false)))) = some (r1, r2) := h
  clear h
  replace H := Option.bind_eq_some_iff.mp H
  obtain ⟨t180, A20, H⟩ := H
  replace H : (if t180 = true then ((impl_allLoops.f k a0).bind fun t181 => (impl_CountDrawn.l0 k 0 t181 (t181.length : Int) 0)) else (some (0, false))) = some (r1, r2) := H
  have A2 := Aside0.mk A20
  clear A20
  by_cases c3 : t180 = true
  · subst c3
    have H1 : ((impl_allLoops.f k a0).bind fun t181 => (impl_CountDrawn.l0 k 0 t181 (t181.length : Int) 0)) = some (r1, r2) := by rw [if_pos rfl] at H; exact H
    clear H
    have H := H1
    clear H1
    replace H := Option.bind_eq_some_iff.mp H
    obtain ⟨t181, A40, H⟩ := H
    replace H : (impl_CountDrawn.l0 k 0 t181 (t181.length : Int) 0) = some (r1, r2) := H
    have A4 := Aside0.mk A40
    clear A40
    have H' := Aside0.mk H
    clear H
    go_enter Tryz.func16, Tryz.ntmps16
    go_wp2_with (first | ((with_reducible refine gate_callee (f := 55) rfl ?_); refine goesL_ (some 8) rfl rfl Tryz.func55 (by kernel_rfl) rfl #[.int .i64 a0, .int .i64 0, .int .i64 4] rfl (by (try simp only [List.map_toArray, List.map_cons, List.map_nil]); first | done | rfl | (simp only [List.length_drop, List.length_take]; rfl)) ?_; (with_reducible refine (impl_within.calls a0 0 4 true _ A2.out).mono ?_); rintro e w' ⟨rfl, ⟨nd, rfl⟩⟩; refine ⟨_, rfl, ?_⟩) | ((with_reducible refine gate_callee (f := 67) rfl ?_); refine goesL_ (some 11) rfl rfl Tryz.func67 (by kernel_rfl) rfl #[.int .i64 a0] rfl (by (try simp only [List.map_toArray, List.map_cons, List.map_nil]); first | done | rfl | (simp only [List.length_drop, List.length_take]; rfl)) ?_; (with_reducible refine (impl_allLoops.calls k a0 t181 _ A4.out).mono ?_); rintro e w5 ⟨v182, rfl, ho0, hb⟩; refine ⟨_, rfl, ?_⟩; have n0_ := Aside0.mk (Kd.R_lower ho0 (below_size (by repeat (first | (with_reducible first | exact HB.out | apply below_alloc | apply pw_below_drewN | apply below_drew1) | exact HB.out)))); have n1_ := Aside0.mk (below_step (by repeat (first | (with_reducible first | exact HB.out | apply below_alloc | apply pw_below_drewN | apply below_drew1) | exact HB.out)) hb); clear HB; have HO183 := n0_; have HB := n1_; clear n0_ n1_; (try clear hb); (try clear hb2); (try clear hk); (try clear hi); (try clear ho0); obtain ⟨Ao6, co6, eo6⟩ := Kd.R_slice HO183.out; subst eo6))
    go_loopg [4, 13] k (fun kq v4 v13 w' => ∃ (x4_1 : Int) (x13_1 : Int), v4 = .int .i64 x4_1 ∧ v13 = .int .i64 x13_1 ∧ Aside0 (impl_CountDrawn.l0 kq x4_1 t181 (t181.length : Int) x13_1 = some (r1, r2)) ∧ Aside0 (kq ≤ k) ∧ Aside0 (Kd.R Kd.string 9 w' w.heap.size (fun _ => True) (.slice Ao6 t181.length co6) t181) ∧ Aside0 (Below w.heap.size w w'))
    case atStart => exact ⟨(0), (0), (by first | rfl | (simp; done) | (simp [*]; done)), (by first | rfl | (simp; done) | (simp [*]; done)), H', ⟨Nat.le_refl _⟩, ⟨by (with_reducible repeat (first | apply Kd.R_alloc | apply Kd.R_drewN | apply Kd.R_drew)); exact HO183.out⟩, ⟨by repeat (first | (with_reducible first | exact HB.out | apply below_alloc | apply pw_below_drewN | apply below_drew1) | exact HB.out)⟩⟩
    case round =>
      clear H'
      try clear c1
      try clear p2
      try clear c3
      try clear c5
      try clear c6
      obtain ⟨x4_1, x13_1, rfl, rfl, HA, HK1, HO_11, HB⟩ := hrel
      cases gk with
      | zero => exact absurd HA.out (by simp [impl_CountDrawn.l0])
      | succ k1 =>
        have H := HA.out
        clear HA
        simp only [impl_CountDrawn.l0] at H
        by_cases c7 : x13_1 < (t181.length : Int)
        · rw [if_pos c7] at H
          have c7b0 : decide (x13_1 < (t181.length : Int)) = true := decide_eq_true c7
          clear c7
          by_cases c8 : 0 ≤ x13_1
          · rw [if_pos c8] at H
            have c8b0 : decide (0 ≤ x13_1) = true := decide_eq_true c8
            clear c8
            by_cases c9 : x13_1 < (t181.length : Int)
            · rw [if_pos c9] at H
              have c9b0 : decide (x13_1 < (t181.length : Int)) = true := decide_eq_true c9
              clear c9
              replace H := Option.bind_eq_some_iff.mp H
              obtain ⟨t185, A100, H⟩ := H
              replace H : (if t185 = true then (impl_CountDrawn.l0 k1 (wrap64 (x4_1 + 1)) t181 (t181.length : Int) (wrap64 (x13_1 + 1))) else (impl_CountDrawn.l0 k1 x4_1 t181 (t181.length : Int) (wrap64 (x13_1 + 1)))) = some (r1, r2) := H
              have A10 := Aside0.mk A100
              clear A100
              by_cases c11 : t185 = true
              · subst c11
                have H1 : (impl_CountDrawn.l0 k1 (wrap64 (x4_1 + 1)) t181 (t181.length : Int) (wrap64 (x13_1 + 1))) = some (r1, r2) := by rw [if_pos rfl] at H; exact H
                clear H
                have H := H1
                clear H1
                have H' := Aside0.mk H
                clear H
                have p184 : 0 ≤ (x13_1 : Int) := of_decide_eq_true (by first | (with_reducible assumption) | assumption)
                have q184 : x13_1 < (t181.length : Int) := of_decide_eq_true (by first | (with_reducible assumption) | assumption)
                obtain ⟨ad184, e184, hx184_0⟩ := Kd.at_string (Kd.R_reads' HO_11.out).2.2 x13_1 p184 q184
                cases e184
                replace p184 := eq_true p184
                replace q184 := eq_true q184
                go_wp2_with (first | ((with_reducible refine gate_callee (f := 68) rfl ?_); refine goesL_ (some 18) rfl rfl Tryz.func68 (by kernel_rfl) rfl #[.string (rdOf ByteArray.empty t181 x13_1)] rfl (by (try simp only [List.map_toArray, List.map_cons, List.map_nil]); first | done | rfl | (simp only [List.length_drop, List.length_take]; rfl)) ?_; (with_reducible refine (impl_canBeDrawn.calls k1 (rdOf ByteArray.empty t181 x13_1) true _ A10.out).mono ?_); rintro e w12 ⟨rfl, hb⟩; refine ⟨_, rfl, ?_⟩; have n0_ := Aside0.mk (Kd.R_below (by (with_reducible repeat (first | apply Kd.R_alloc | apply Kd.R_drewN | apply Kd.R_drew)); exact HO_11.out) hb); have n1_ := Aside0.mk (below_step (by repeat (first | (with_reducible first | exact HB.out | apply below_alloc | apply pw_below_drewN | apply below_drew1) | exact HB.out)) hb); clear HO_11; clear HB; have HO_11 := n0_; have HB := n1_; clear n0_ n1_; (try clear hb); (try clear hb2); (try clear hk); (try clear hi)))
                go_roundg k1
                case measure => have := HK1.out; omega
                case rel => exact ⟨(wrap64 (x4_1 + 1)), (wrap64 (x13_1 + 1)), (by first | rfl | (simp; done) | (simp [*]; done)), (by first | rfl | (simp; done) | (simp [*]; done)), H', ⟨by have := HK1.out; omega⟩, ⟨by (with_reducible repeat (first | apply Kd.R_alloc | apply Kd.R_drewN | apply Kd.R_drew)); exact HO_11.out⟩, ⟨by repeat (first | (with_reducible first | exact HB.out | apply below_alloc | apply pw_below_drewN | apply below_drew1) | exact HB.out)⟩⟩
              · replace c11 := Bool.eq_false_iff.mpr c11
                subst c11
                have H1 : (impl_CountDrawn.l0 k1 x4_1 t181 (t181.length : Int) (wrap64 (x13_1 + 1))) = some (r1, r2) := by rw [if_neg (show ¬ (false = true) by decide)] at H; exact H
                clear H
                have H := H1
                clear H1
                have H' := Aside0.mk H
                clear H
                have p184 : 0 ≤ (x13_1 : Int) := of_decide_eq_true (by first | (with_reducible assumption) | assumption)
                have q184 : x13_1 < (t181.length : Int) := of_decide_eq_true (by first | (with_reducible assumption) | assumption)
                obtain ⟨ad184, e184, hx184_0⟩ := Kd.at_string (Kd.R_reads' HO_11.out).2.2 x13_1 p184 q184
                cases e184
                replace p184 := eq_true p184
                replace q184 := eq_true q184
                go_wp2_with (first | ((with_reducible refine gate_callee (f := 68) rfl ?_); refine goesL_ (some 18) rfl rfl Tryz.func68 (by kernel_rfl) rfl #[.string (rdOf ByteArray.empty t181 x13_1)] rfl (by (try simp only [List.map_toArray, List.map_cons, List.map_nil]); first | done | rfl | (simp only [List.length_drop, List.length_take]; rfl)) ?_; (with_reducible refine (impl_canBeDrawn.calls k1 (rdOf ByteArray.empty t181 x13_1) false _ A10.out).mono ?_); rintro e w13 ⟨rfl, hb⟩; refine ⟨_, rfl, ?_⟩; have n0_ := Aside0.mk (Kd.R_below (by (with_reducible repeat (first | apply Kd.R_alloc | apply Kd.R_drewN | apply Kd.R_drew)); exact HO_11.out) hb); have n1_ := Aside0.mk (below_step (by repeat (first | (with_reducible first | exact HB.out | apply below_alloc | apply pw_below_drewN | apply below_drew1) | exact HB.out)) hb); clear HO_11; clear HB; have HO_11 := n0_; have HB := n1_; clear n0_ n1_; (try clear hb); (try clear hb2); (try clear hk); (try clear hi)))
                go_roundg k1
                case measure => have := HK1.out; omega
                case rel => exact ⟨(x4_1), (wrap64 (x13_1 + 1)), (by first | rfl | (simp; done) | (simp [*]; done)), (by first | rfl | (simp; done) | (simp [*]; done)), H', ⟨by have := HK1.out; omega⟩, ⟨by (with_reducible repeat (first | apply Kd.R_alloc | apply Kd.R_drewN | apply Kd.R_drew)); exact HO_11.out⟩, ⟨by repeat (first | (with_reducible first | exact HB.out | apply below_alloc | apply pw_below_drewN | apply below_drew1) | exact HB.out)⟩⟩
            · rw [if_neg c9] at H
              exact absurd H (by simp)
          · rw [if_neg c8] at H
            exact absurd H (by simp)
        · rw [if_neg c7] at H
          have c7b0 : decide (x13_1 < (t181.length : Int)) = false := decide_eq_false c7
          clear c7
          simp only [Option.some.injEq, Prod.mk.injEq] at H
          obtain ⟨rfl, rfl⟩ := H
          go_wp2
          go_ret2
          exact ⟨by first | rfl | (simp [errW_none, errW_some] <;> rfl) | (simp [*, errW_none, errW_some] <;> rfl), by repeat (first | (with_reducible first | exact HB.out | apply below_alloc | apply pw_below_drewN | apply below_drew1) | exact HB.out)⟩
  · replace c3 := Bool.eq_false_iff.mpr c3
    subst c3
    have H1 : (some (0, false)) = some (r1, r2) := by rw [if_neg (show ¬ (false = true) by decide)] at H; exact H
    clear H
    have H := H1
    clear H1
    simp only [Option.some.injEq, Prod.mk.injEq] at H
    obtain ⟨rfl, rfl⟩ := H
    go_enter Tryz.func16, Tryz.ntmps16
    go_wp2_with (first | ((with_reducible refine gate_callee (f := 55) rfl ?_); refine goesL_ (some 8) rfl rfl Tryz.func55 (by kernel_rfl) rfl #[.int .i64 a0, .int .i64 0, .int .i64 4] rfl (by (try simp only [List.map_toArray, List.map_cons, List.map_nil]); first | done | rfl | (simp only [List.length_drop, List.length_take]; rfl)) ?_; (with_reducible refine (impl_within.calls a0 0 4 false _ A2.out).mono ?_); rintro e w' ⟨rfl, ⟨nd, rfl⟩⟩; refine ⟨_, rfl, ?_⟩))
    go_ret2
    exact ⟨by first | rfl | (simp [errW_none, errW_some] <;> rfl) | (simp [*, errW_none, errW_some] <;> rfl), by repeat (first | (with_reducible first | exact HB.out | apply below_alloc | apply pw_below_drewN | apply below_drew1) | exact HB.out)⟩

end Go.Proofs.YtcgoaipbfnhjhaaGreatDoor.Pr

-- Written by a program for this claim.
namespace Go.Proofs.YtcgoaipbfnhjhaaGreatDoor.Pr
open Go.RowKit Go.Proofs.YtcgoaipbfnhjhaaGreatDoorW.PrintWords Go.Proofs.YtcgoaipbfnhjhaaGreatDoorW.PrintLast Go.Proofs.YtcgoaipbfnhjhaaGreatDoorW.PrintMore
attribute [local go_sem] max2_int min2_int max_two min_two max_three min_three max_four min_four   -- for this text's walks alone
set_option linter.unusedVariables false
set_option linter.unusedSimpArgs false

/-! ### spec_loPlaces: function 86 -/
def spec_loPlaces.l0 : Nat → ByteArray → Int → Int → Int → Int → Option (Int × Int)
  | 0, _, _, _, _, _ => none
  | k + 1, x0, x1, x6, x7, x8 => if x8 < (x0.size : Int) then (if 0 ≤ x8 then (if (bt x0 x8) = x1 then (if x6 < 0 then (spec_loPlaces.l0 k x0 x1 x8 x8 (wrap64 (x8 + 1))) else (spec_loPlaces.l0 k x0 x1 x6 x8 (wrap64 (x8 + 1)))) else (spec_loPlaces.l0 k x0 x1 x6 x7 (wrap64 (x8 + 1)))) else (none)) else (some (x6, x7))
def spec_loPlaces.f (k : Nat) (a0 : ByteArray) (a1 : Int) : Option (Int × Int) := spec_loPlaces.l0 k a0 a1 (-1) (-1) 0
theorem spec_loPlaces.mono_l : ∀ k, (∀ y0 y1 y2 y3 y4, LeO (spec_loPlaces.l0 k y0 y1 y2 y3 y4) (spec_loPlaces.l0 (k + 1) y0 y1 y2 y3 y4))
  | 0 => fun _ _ _ _ _ r h => by simp [spec_loPlaces.l0] at h
  | k + 1 => by
    have ih0 := spec_loPlaces.mono_l k
    · intro y0 y1 y2 y3 y4
      unfold spec_loPlaces.l0
      repeat' first
      | (with_reducible exact ih0 _ _ _ _ _)
      | (with_reducible exact LeO.refl _)
      | (with_reducible exact LeO.none _)
      | (with_reducible refine LeO.ite ?_ ?_)
      | (with_reducible refine LeO.bind ?_ (fun _ => ?_))
      | exact ih0 _ _ _ _ _
      | exact LeO.none _
      | refine LeO.ite ?_ ?_
      | refine LeO.bind ?_ (fun _ => ?_)
theorem spec_loPlaces.mono : ∀ a0 a1 k, LeO (spec_loPlaces.f k a0 a1) (spec_loPlaces.f (k + 1) a0 a1) := by
  intro a0 a1 k
  have ih0 := spec_loPlaces.mono_l k
  unfold spec_loPlaces.f
  repeat' first
      | (with_reducible exact ih0 _ _ _ _ _)
      | (with_reducible exact LeO.refl _)
      | (with_reducible exact LeO.none _)
      | (with_reducible refine LeO.ite ?_ ?_)
      | (with_reducible refine LeO.bind ?_ (fun _ => ?_))
      | exact ih0 _ _ _ _ _
      | exact LeO.none _
      | refine LeO.ite ?_ ?_
      | refine LeO.bind ?_ (fun _ => ?_)
set_option maxHeartbeats 8000000 in
set_option maxRecDepth 100000 in
theorem spec_loPlaces.calls (k : Nat) (a0 : ByteArray) (a1 : Int) (r1 : Int) (r2 : Int) (w : World) (h : spec_loPlaces.f k a0 a1 = some (r1, r2)) :
    Calls Tryz.prog 86 #[.string a0, .int .u8 a1] w fun e w' => e = .returned (.tuple #[.int .i64 r1, .int .i64 r2]) ∧ Drawn0 w w' := by
  have H : (spec_loPlaces.l0 k a0 a1 (-1) (-1) 0) = some (r1, r2) := h
  clear h
  have H' := Aside0.mk H
  clear H
  go_enter Tryz.func86, Tryz.ntmps86
  go_wp2
  go_loopg [6, 7, 8] k (fun kq v6 v7 v8 w' => ∃ (x6_1 : Int) (x7_1 : Int) (x8_1 : Int), v6 = .int .i64 x6_1 ∧ v7 = .int .i64 x7_1 ∧ v8 = .int .i64 x8_1 ∧ Aside0 (spec_loPlaces.l0 kq a0 a1 x6_1 x7_1 x8_1 = some (r1, r2)) ∧ Aside0 (kq ≤ k) ∧ Drawn0 w w')
  case atStart => exact ⟨((-1)), ((-1)), (0), (by first | rfl | (simp; done) | (simp [*]; done)), (by first | rfl | (simp; done) | (simp [*]; done)), (by first | rfl | (simp; done) | (simp [*]; done)), H', ⟨Nat.le_refl _⟩, by repeat (first | exact Drawn0.refl _ | apply Drawn0.step)⟩
  case round =>
    clear H'
    try clear p2
    obtain ⟨x6_1, x7_1, x8_1, rfl, rfl, rfl, HA, HK1, ⟨m1, rfl⟩⟩ := hrel
    cases gk with
    | zero => exact absurd HA.out (by simp [spec_loPlaces.l0])
    | succ k1 =>
      have H := HA.out
      clear HA
      simp only [spec_loPlaces.l0] at H
      by_cases c3 : x8_1 < (a0.size : Int)
      · rw [if_pos c3] at H
        have c3b0 : decide (x8_1 < (a0.size : Int)) = true := decide_eq_true c3
        clear c3
        by_cases c4 : 0 ≤ x8_1
        · rw [if_pos c4] at H
          have c4b0 : decide (0 ≤ x8_1) = true := decide_eq_true c4
          clear c4
          by_cases c6 : (bt a0 x8_1) = a1
          · rw [if_pos c6] at H
            have c6b0 : ((bt a0 x8_1) == a1) = true := beq_iff_eq.mpr c6
            have c6b1 : ((bt a0 x8_1) != a1) = false := bne_eq_false_iff_eq.mpr c6
            clear c6
            by_cases c7 : x6_1 < 0
            · rw [if_pos c7] at H
              have c7b0 : decide (x6_1 < 0) = true := decide_eq_true c7
              clear c7
              have H' := Aside0.mk H
              clear H
              have p5 : 0 ≤ (x8_1 : Int) := of_decide_eq_true (by first | (with_reducible assumption) | assumption)
              have q5 : x8_1 < (a0.size : Int) := of_decide_eq_true (by first | (with_reducible assumption) | assumption)
              have hx5 := bt_at a0 x8_1
              replace p5 := eq_true p5
              replace q5 := eq_true q5
              go_wp2
              go_roundg k1
              case measure => have := HK1.out; omega
              case rel => exact ⟨(x8_1), (x8_1), (wrap64 (x8_1 + 1)), (by first | rfl | (simp; done) | (simp [*]; done)), (by first | rfl | (simp; done) | (simp [*]; done)), (by first | rfl | (simp; done) | (simp [*]; done)), H', ⟨by have := HK1.out; omega⟩, by repeat (first | exact Drawn0.refl _ | apply Drawn0.step)⟩
            · rw [if_neg c7] at H
              have c7b0 : decide (x6_1 < 0) = false := decide_eq_false c7
              clear c7
              have H' := Aside0.mk H
              clear H
              have p5 : 0 ≤ (x8_1 : Int) := of_decide_eq_true (by first | (with_reducible assumption) | assumption)
              have q5 : x8_1 < (a0.size : Int) := of_decide_eq_true (by first | (with_reducible assumption) | assumption)
              have hx5 := bt_at a0 x8_1
              replace p5 := eq_true p5
              replace q5 := eq_true q5
              go_wp2
              go_roundg k1
              case measure => have := HK1.out; omega
              case rel => exact ⟨(x6_1), (x8_1), (wrap64 (x8_1 + 1)), (by first | rfl | (simp; done) | (simp [*]; done)), (by first | rfl | (simp; done) | (simp [*]; done)), (by first | rfl | (simp; done) | (simp [*]; done)), H', ⟨by have := HK1.out; omega⟩, by repeat (first | exact Drawn0.refl _ | apply Drawn0.step)⟩
          · rw [if_neg c6] at H
            have c6b0 : ((bt a0 x8_1) == a1) = false := beq_eq_false_iff_ne.mpr c6
            have c6b1 : ((bt a0 x8_1) != a1) = true := bne_iff_ne.mpr c6
            have H' := Aside0.mk H
            clear H
            have p5 : 0 ≤ (x8_1 : Int) := of_decide_eq_true (by first | (with_reducible assumption) | assumption)
            have q5 : x8_1 < (a0.size : Int) := of_decide_eq_true (by first | (with_reducible assumption) | assumption)
            have hx5 := bt_at a0 x8_1
            replace p5 := eq_true p5
            replace q5 := eq_true q5
            go_wp2
            go_roundg k1
            case measure => have := HK1.out; omega
            case rel => exact ⟨(x6_1), (x7_1), (wrap64 (x8_1 + 1)), (by first | rfl | (simp; done) | (simp [*]; done)), (by first | rfl | (simp; done) | (simp [*]; done)), (by first | rfl | (simp; done) | (simp [*]; done)), H', ⟨by have := HK1.out; omega⟩, by repeat (first | exact Drawn0.refl _ | apply Drawn0.step)⟩
        · rw [if_neg c4] at H
          exact absurd H (by simp)
      · rw [if_neg c3] at H
        have c3b0 : decide (x8_1 < (a0.size : Int)) = false := decide_eq_false c3
        clear c3
        simp only [Option.some.injEq, Prod.mk.injEq] at H
        obtain ⟨rfl, rfl⟩ := H
        go_wp2
        go_ret2
        exact ⟨by first | rfl | (simp; done) | (simp [*]; done), by repeat (first | exact Drawn0.refl _ | apply Drawn0.step)⟩

end Go.Proofs.YtcgoaipbfnhjhaaGreatDoor.Pr

-- Written by a program for this claim.
namespace Go.Proofs.YtcgoaipbfnhjhaaGreatDoor.Pr
open Go.RowKit Go.Proofs.YtcgoaipbfnhjhaaGreatDoorW.PrintWords Go.Proofs.YtcgoaipbfnhjhaaGreatDoorW.PrintLast Go.Proofs.YtcgoaipbfnhjhaaGreatDoorW.PrintMore
attribute [local go_sem] max2_int min2_int max_two min_two max_three min_three max_four min_four   -- for this text's walks alone
set_option linter.unusedVariables false
set_option linter.unusedSimpArgs false

/-! ### spec_loLaced: function 96 -/
def spec_loLaced.l0 : Nat → ByteArray → Int → Int → Int → Int → Int → Option (Bool)
  | 0, _, _, _, _, _, _ => none
  | k + 1, x0, x1, x2, x8, x9, x10 => if x10 < x8 then (if 0 ≤ x10 then (if x10 < (x0.size : Int) then (if (bt x0 x10) = x2 then (spec_loLaced.l0 k x0 x1 x2 x8 (wrap64 (x9 + 1)) (wrap64 (x10 + 1))) else (spec_loLaced.l0 k x0 x1 x2 x8 x9 (wrap64 (x10 + 1)))) else (none)) else (none)) else (if x1 = x2 then (some false) else (some (x9 == 1)))
def spec_loLaced.f (k : Nat) (a0 : ByteArray) (a1 : Int) (a2 : Int) : Option (Bool) := (spec_loPlaces.f k a0 a1).bind fun bt186 => (spec_loLaced.l0 k a0 a1 a2 bt186.2 0 (wrap64 (bt186.1 + 1)))
theorem spec_loLaced.mono_l : ∀ k, (∀ y0 y1 y2 y3 y4 y5, LeO (spec_loLaced.l0 k y0 y1 y2 y3 y4 y5) (spec_loLaced.l0 (k + 1) y0 y1 y2 y3 y4 y5))
  | 0 => fun _ _ _ _ _ _ r h => by simp [spec_loLaced.l0] at h
  | k + 1 => by
    have ih0 := spec_loLaced.mono_l k
    · intro y0 y1 y2 y3 y4 y5
      unfold spec_loLaced.l0
      repeat' first
      | (with_reducible exact ih0 _ _ _ _ _ _)
      | (with_reducible exact spec_loPlaces.mono _ _ _)
      | (with_reducible exact LeO.refl _)
      | (with_reducible exact LeO.none _)
      | (with_reducible refine LeO.ite ?_ ?_)
      | (with_reducible refine LeO.bind ?_ (fun _ => ?_))
      | exact ih0 _ _ _ _ _ _
      | exact spec_loPlaces.mono _ _ _
      | exact LeO.none _
      | refine LeO.ite ?_ ?_
      | refine LeO.bind ?_ (fun _ => ?_)
theorem spec_loLaced.mono : ∀ a0 a1 a2 k, LeO (spec_loLaced.f k a0 a1 a2) (spec_loLaced.f (k + 1) a0 a1 a2) := by
  intro a0 a1 a2 k
  have ih0 := spec_loLaced.mono_l k
  unfold spec_loLaced.f
  repeat' first
      | (with_reducible exact ih0 _ _ _ _ _ _)
      | (with_reducible exact spec_loPlaces.mono _ _ _)
      | (with_reducible exact LeO.refl _)
      | (with_reducible exact LeO.none _)
      | (with_reducible refine LeO.ite ?_ ?_)
      | (with_reducible refine LeO.bind ?_ (fun _ => ?_))
      | exact ih0 _ _ _ _ _ _
      | exact spec_loPlaces.mono _ _ _
      | exact LeO.none _
      | refine LeO.ite ?_ ?_
      | refine LeO.bind ?_ (fun _ => ?_)
set_option maxHeartbeats 8000000 in
set_option maxRecDepth 100000 in
theorem spec_loLaced.calls (k : Nat) (a0 : ByteArray) (a1 : Int) (a2 : Int) (r : Bool) (w : World) (h : spec_loLaced.f k a0 a1 a2 = some r) :
    Calls Tryz.prog 96 #[.string a0, .int .u8 a1, .int .u8 a2] w fun e w' => e = .returned (.bool r) ∧ Drawn0 w w' := by
  have H : ((spec_loPlaces.f k a0 a1).bind fun bt186 => (spec_loLaced.l0 k a0 a1 a2 bt186.2 0 (wrap64 (bt186.1 + 1)))) = some r := h
  clear h
  replace H := Option.bind_eq_some_iff.mp H
  obtain ⟨⟨t186, t187⟩, A40, H⟩ := H
  replace H : (spec_loLaced.l0 k a0 a1 a2 t187 0 (wrap64 (t186 + 1))) = some r := H
  have A4 := Aside0.mk A40
  clear A40
  have H' := Aside0.mk H
  clear H
  go_enter Tryz.func96, Tryz.ntmps96
  go_wp2_with (first | ((with_reducible refine gate_callee (f := 86) rfl ?_); refine goesL_ (some 14) rfl rfl Tryz.func86 (by kernel_rfl) rfl #[.string a0, .int .u8 a1] rfl (by (try simp only [List.map_toArray, List.map_cons, List.map_nil]); first | done | rfl | (simp only [List.length_drop, List.length_take]; rfl)) ?_; (with_reducible refine (spec_loPlaces.calls k a0 a1 t186 t187 _ A4.out).mono ?_); rintro e w' ⟨rfl, ⟨nd, rfl⟩⟩; refine ⟨_, rfl, ?_⟩))
  go_loopg [9, 10] k (fun kq v9 v10 w' => ∃ (x9_1 : Int) (x10_1 : Int), v9 = .int .i64 x9_1 ∧ v10 = .int .i64 x10_1 ∧ Aside0 (spec_loLaced.l0 kq a0 a1 a2 t187 x9_1 x10_1 = some r) ∧ Aside0 (kq ≤ k) ∧ Drawn0 w w')
  case atStart => exact ⟨(0), (wrap64 (t186 + 1)), (by first | rfl | (simp; done) | (simp [*]; done)), (by first | rfl | (simp; done) | (simp [*]; done)), H', ⟨Nat.le_refl _⟩, by repeat (first | exact Drawn0.refl _ | apply Drawn0.step)⟩
  case round =>
    clear H'
    try clear p2
    obtain ⟨x9_1, x10_1, rfl, rfl, HA, HK1, ⟨m1, rfl⟩⟩ := hrel
    cases gk with
    | zero => exact absurd HA.out (by simp [spec_loLaced.l0])
    | succ k1 =>
      have H := HA.out
      clear HA
      simp only [spec_loLaced.l0] at H
      by_cases c5 : x10_1 < t187
      · rw [if_pos c5] at H
        have c5b0 : decide (x10_1 < t187) = true := decide_eq_true c5
        clear c5
        by_cases c6 : 0 ≤ x10_1
        · rw [if_pos c6] at H
          have c6b0 : decide (0 ≤ x10_1) = true := decide_eq_true c6
          clear c6
          by_cases c7 : x10_1 < (a0.size : Int)
          · rw [if_pos c7] at H
            have c7b0 : decide (x10_1 < (a0.size : Int)) = true := decide_eq_true c7
            clear c7
            by_cases c9 : (bt a0 x10_1) = a2
            · rw [if_pos c9] at H
              have c9b0 : ((bt a0 x10_1) == a2) = true := beq_iff_eq.mpr c9
              have c9b1 : ((bt a0 x10_1) != a2) = false := bne_eq_false_iff_eq.mpr c9
              clear c9
              have H' := Aside0.mk H
              clear H
              have p8 : 0 ≤ (x10_1 : Int) := of_decide_eq_true (by first | (with_reducible assumption) | assumption)
              have q8 : x10_1 < (a0.size : Int) := of_decide_eq_true (by first | (with_reducible assumption) | assumption)
              have hx8 := bt_at a0 x10_1
              replace p8 := eq_true p8
              replace q8 := eq_true q8
              go_wp2
              go_roundg k1
              case measure => have := HK1.out; omega
              case rel => exact ⟨(wrap64 (x9_1 + 1)), (wrap64 (x10_1 + 1)), (by first | rfl | (simp; done) | (simp [*]; done)), (by first | rfl | (simp; done) | (simp [*]; done)), H', ⟨by have := HK1.out; omega⟩, by repeat (first | exact Drawn0.refl _ | apply Drawn0.step)⟩
            · rw [if_neg c9] at H
              have c9b0 : ((bt a0 x10_1) == a2) = false := beq_eq_false_iff_ne.mpr c9
              have c9b1 : ((bt a0 x10_1) != a2) = true := bne_iff_ne.mpr c9
              have H' := Aside0.mk H
              clear H
              have p8 : 0 ≤ (x10_1 : Int) := of_decide_eq_true (by first | (with_reducible assumption) | assumption)
              have q8 : x10_1 < (a0.size : Int) := of_decide_eq_true (by first | (with_reducible assumption) | assumption)
              have hx8 := bt_at a0 x10_1
              replace p8 := eq_true p8
              replace q8 := eq_true q8
              go_wp2
              go_roundg k1
              case measure => have := HK1.out; omega
              case rel => exact ⟨(x9_1), (wrap64 (x10_1 + 1)), (by first | rfl | (simp; done) | (simp [*]; done)), (by first | rfl | (simp; done) | (simp [*]; done)), H', ⟨by have := HK1.out; omega⟩, by repeat (first | exact Drawn0.refl _ | apply Drawn0.step)⟩
          · rw [if_neg c7] at H
            exact absurd H (by simp)
        · rw [if_neg c6] at H
          exact absurd H (by simp)
      · rw [if_neg c5] at H
        have c5b0 : decide (x10_1 < t187) = false := decide_eq_false c5
        clear c5
        by_cases c10 : a1 = a2
        · rw [if_pos c10] at H
          have c10b0 : (a1 == a2) = true := beq_iff_eq.mpr c10
          have c10b1 : (a1 != a2) = false := bne_eq_false_iff_eq.mpr c10
          clear c10
          obtain rfl := Option.some.inj H
          go_wp2
          go_ret
          exact ⟨by first | rfl | (simp; done) | (simp [*]; done), by repeat (first | exact Drawn0.refl _ | apply Drawn0.step)⟩
        · rw [if_neg c10] at H
          have c10b0 : (a1 == a2) = false := beq_eq_false_iff_ne.mpr c10
          have c10b1 : (a1 != a2) = true := bne_iff_ne.mpr c10
          obtain rfl := Option.some.inj H
          go_wp2
          go_ret
          exact ⟨by first | rfl | (simp; done) | (simp [*]; done), by repeat (first | exact Drawn0.refl _ | apply Drawn0.step)⟩

end Go.Proofs.YtcgoaipbfnhjhaaGreatDoor.Pr

-- Written by a program for this claim.
namespace Go.Proofs.YtcgoaipbfnhjhaaGreatDoor.Pr
open Go.RowKit Go.Proofs.YtcgoaipbfnhjhaaGreatDoorW.PrintWords Go.Proofs.YtcgoaipbfnhjhaaGreatDoorW.PrintLast Go.Proofs.YtcgoaipbfnhjhaaGreatDoorW.PrintMore
attribute [local go_sem] max2_int min2_int max_two min_two max_three min_three max_four min_four   -- for this text's walks alone
set_option linter.unusedVariables false
set_option linter.unusedSimpArgs false

/-! ### spec_loWith: function 97 -/
def spec_loWith.l0 : Nat → ByteArray → Int → ByteArray → Int → Option (ByteArray)
  | 0, _, _, _, _ => none
  | k + 1, x0, x1, x5, x6 => if x6 < (wrap64 ((x0.size : Int) / 2)) then ((spec_loLaced.f k x0 x1 ((wrap64 (97 + x6)) % 256)).bind fun t188 => (if t188 = true then (if 0 ≤ x6 then (if x6 ≤ (wrap64 (x6 + 1)) then (if (wrap64 (x6 + 1)) ≤ 16 then (if x5.size + ((⟨#[97, 98, 99, 100, 101, 102, 103, 104, 105, 106, 107, 108, 109, 110, 111, 112]⟩ : ByteArray).extract (x6 : Int).toNat ((wrap64 (x6 + 1)) : Int).toNat).size ≤ 9223372036854775807 then (spec_loWith.l0 k x0 x1 (x5 ++ ((⟨#[97, 98, 99, 100, 101, 102, 103, 104, 105, 106, 107, 108, 109, 110, 111, 112]⟩ : ByteArray).extract (x6 : Int).toNat ((wrap64 (x6 + 1)) : Int).toNat)) (wrap64 (x6 + 1))) else (none)) else (none)) else (none)) else (none)) else (spec_loWith.l0 k x0 x1 x5 (wrap64 (x6 + 1))))) else (some x5)
def spec_loWith.f (k : Nat) (a0 : ByteArray) (a1 : Int) : Option (ByteArray) := spec_loWith.l0 k a0 a1 (⟨#[]⟩ : ByteArray) 0
theorem spec_loWith.mono_l : ∀ k, (∀ y0 y1 y2 y3, LeO (spec_loWith.l0 k y0 y1 y2 y3) (spec_loWith.l0 (k + 1) y0 y1 y2 y3))
  | 0 => fun _ _ _ _ r h => by simp [spec_loWith.l0] at h
  | k + 1 => by
    have ih0 := spec_loWith.mono_l k
    · intro y0 y1 y2 y3
      unfold spec_loWith.l0
      repeat' first
      | (with_reducible exact ih0 _ _ _ _)
      | (with_reducible exact spec_loLaced.mono _ _ _ _)
      | (with_reducible exact LeO.refl _)
      | (with_reducible exact LeO.none _)
      | (with_reducible refine LeO.ite ?_ ?_)
      | (with_reducible refine LeO.bind ?_ (fun _ => ?_))
      | exact ih0 _ _ _ _
      | exact spec_loLaced.mono _ _ _ _
      | exact LeO.none _
      | refine LeO.ite ?_ ?_
      | refine LeO.bind ?_ (fun _ => ?_)
theorem spec_loWith.mono : ∀ a0 a1 k, LeO (spec_loWith.f k a0 a1) (spec_loWith.f (k + 1) a0 a1) := by
  intro a0 a1 k
  have ih0 := spec_loWith.mono_l k
  unfold spec_loWith.f
  repeat' first
      | (with_reducible exact ih0 _ _ _ _)
      | (with_reducible exact spec_loLaced.mono _ _ _ _)
      | (with_reducible exact LeO.refl _)
      | (with_reducible exact LeO.none _)
      | (with_reducible refine LeO.ite ?_ ?_)
      | (with_reducible refine LeO.bind ?_ (fun _ => ?_))
      | exact ih0 _ _ _ _
      | exact spec_loLaced.mono _ _ _ _
      | exact LeO.none _
      | refine LeO.ite ?_ ?_
      | refine LeO.bind ?_ (fun _ => ?_)
set_option maxHeartbeats 8000000 in
set_option maxRecDepth 100000 in
theorem spec_loWith.calls (k : Nat) (a0 : ByteArray) (a1 : Int) (r : ByteArray) (w : World) (h : spec_loWith.f k a0 a1 = some r) :
    Calls Tryz.prog 97 #[.string a0, .int .u8 a1] w fun e w' => e = .returned (.string r) ∧ Drawn0 w w' := by
  have H : (spec_loWith.l0 k a0 a1 (⟨#[]⟩ : ByteArray) 0) = some r := h
  clear h
  have H' := Aside0.mk H
  clear H
  go_enter Tryz.func97, Tryz.ntmps97
  go_wp2
  go_loopg [5, 6] k (fun kq v5 v6 w' => ∃ (x5_1 : ByteArray) (x6_1 : Int), v5 = .string x5_1 ∧ v6 = .int .i64 x6_1 ∧ Aside0 (spec_loWith.l0 kq a0 a1 x5_1 x6_1 = some r) ∧ Aside0 (kq ≤ k) ∧ Drawn0 w w')
  case atStart => exact ⟨((⟨#[]⟩ : ByteArray)), (0), (by first | rfl | (simp; done) | (simp [*]; done)), (by first | rfl | (simp; done) | (simp [*]; done)), H', ⟨Nat.le_refl _⟩, by repeat (first | exact Drawn0.refl _ | apply Drawn0.step)⟩
  case round =>
    clear H'
    try clear p2
    obtain ⟨x5_1, x6_1, rfl, rfl, HA, HK1, ⟨m1, rfl⟩⟩ := hrel
    cases gk with
    | zero => exact absurd HA.out (by simp [spec_loWith.l0])
    | succ k1 =>
      have H := HA.out
      clear HA
      simp only [spec_loWith.l0] at H
      by_cases c3 : x6_1 < (wrap64 ((a0.size : Int) / 2))
      · rw [if_pos c3] at H
        have c3b0 : decide (x6_1 < (wrap64 ((a0.size : Int) / 2))) = true := decide_eq_true c3
        clear c3
        replace H := Option.bind_eq_some_iff.mp H
        obtain ⟨t188, A40, H⟩ := H
        replace H : (if t188 = true then (if 0 ≤ x6_1 then (if x6_1 ≤ (wrap64 (x6_1 + 1)) then (if (wrap64 (x6_1 + 1)) ≤ 16 then (if x5_1.size + ((⟨#[97, 98, 99, 100, 101, 102, 103, 104, 105, 106, 107, 108, 109, 110, 111, 112]⟩ : ByteArray).extract (x6_1 : Int).toNat ((wrap64 (x6_1 + 1)) : Int).toNat).size ≤ 9223372036854775807 then (spec_loWith.l0 k1 a0 a1 (x5_1 ++ ((⟨#[97, 98, 99, 100, 101, 102, 103, 104, 105, 106, 107, 108, 109, 110, 111, 112]⟩ : ByteArray).extract (x6_1 : Int).toNat ((wrap64 (x6_1 + 1)) : Int).toNat)) (wrap64 (x6_1 + 1))) else (none)) else (none)) else (none)) else (none)) else (spec_loWith.l0 k1 a0 a1 x5_1 (wrap64 (x6_1 + 1)))) = some r := H
        have A4 := Aside0.mk A40
        clear A40
        by_cases c5 : t188 = true
        · subst c5
          have H1 : (if 0 ≤ x6_1 then (if x6_1 ≤ (wrap64 (x6_1 + 1)) then (if (wrap64 (x6_1 + 1)) ≤ 16 then (if x5_1.size + ((⟨#[97, 98, 99, 100, 101, 102, 103, 104, 105, 106, 107, 108, 109, 110, 111, 112]⟩ : ByteArray).extract (x6_1 : Int).toNat ((wrap64 (x6_1 + 1)) : Int).toNat).size ≤ 9223372036854775807 then (spec_loWith.l0 k1 a0 a1 (x5_1 ++ ((⟨#[97, 98, 99, 100, 101, 102, 103, 104, 105, 106, 107, 108, 109, 110, 111, 112]⟩ : ByteArray).extract (x6_1 : Int).toNat ((wrap64 (x6_1 + 1)) : Int).toNat)) (wrap64 (x6_1 + 1))) else (none)) else (none)) else (none)) else (none)) = some r := by rw [if_pos rfl] at H; exact H
          clear H
          have H := H1
          clear H1
          by_cases c6 : 0 ≤ x6_1
          · rw [if_pos c6] at H
            have c6b0 := eq_true c6
            have c6b1 : decide (0 ≤ x6_1) = true := decide_eq_true c6
            clear c6
            by_cases c7 : x6_1 ≤ (wrap64 (x6_1 + 1))
            · rw [if_pos c7] at H
              have c7b0 := eq_true c7
              have c7b1 : decide (x6_1 ≤ (wrap64 (x6_1 + 1))) = true := decide_eq_true c7
              by_cases c8 : (wrap64 (x6_1 + 1)) ≤ 16
              · rw [if_pos c8] at H
                have c8b0 := eq_true c8
                have c8b1 : decide ((wrap64 (x6_1 + 1)) ≤ 16) = true := decide_eq_true c8
                by_cases c9 : x5_1.size + ((⟨#[97, 98, 99, 100, 101, 102, 103, 104, 105, 106, 107, 108, 109, 110, 111, 112]⟩ : ByteArray).extract (x6_1 : Int).toNat ((wrap64 (x6_1 + 1)) : Int).toNat).size ≤ 9223372036854775807
                · rw [if_pos c9] at H
                  have c9b0 := eq_true c9
                  have c9b1 : decide (x5_1.size + ((⟨#[97, 98, 99, 100, 101, 102, 103, 104, 105, 106, 107, 108, 109, 110, 111, 112]⟩ : ByteArray).extract (x6_1 : Int).toNat ((wrap64 (x6_1 + 1)) : Int).toNat).size ≤ 9223372036854775807) = true := decide_eq_true c9
                  try have c9b2 : (9223372036854775807 < x5_1.size + ((⟨#[97, 98, 99, 100, 101, 102, 103, 104, 105, 106, 107, 108, 109, 110, 111, 112]⟩ : ByteArray).extract (x6_1 : Int).toNat ((wrap64 (x6_1 + 1)) : Int).toNat).size) = False := eq_false (Nat.not_lt.2 c9)
                  have H' := Aside0.mk H
                  clear H
                  go_wp2_with (first | ((with_reducible refine gate_callee (f := 96) rfl ?_); refine goesL_ (some 19) rfl rfl Tryz.func96 (by kernel_rfl) rfl #[.string a0, .int .u8 a1, .int .u8 ((wrap64 (97 + x6_1)) % 256)] rfl (by (try simp only [List.map_toArray, List.map_cons, List.map_nil]); first | done | rfl | (simp only [List.length_drop, List.length_take]; rfl)) ?_; (with_reducible refine (spec_loLaced.calls k1 a0 a1 ((wrap64 (97 + x6_1)) % 256) true _ A4.out).mono ?_); rintro e w' ⟨rfl, ⟨nd, rfl⟩⟩; refine ⟨_, rfl, ?_⟩))
                  go_roundg k1
                  case measure => have := HK1.out; omega
                  case rel => exact ⟨(x5_1 ++ ((⟨#[97, 98, 99, 100, 101, 102, 103, 104, 105, 106, 107, 108, 109, 110, 111, 112]⟩ : ByteArray).extract (x6_1 : Int).toNat ((wrap64 (x6_1 + 1)) : Int).toNat)), (wrap64 (x6_1 + 1)), (by first | rfl | (simp; done) | (simp [*]; done)), (by first | rfl | (simp; done) | (simp [*]; done)), H', ⟨by have := HK1.out; omega⟩, by repeat (first | exact Drawn0.refl _ | apply Drawn0.step)⟩
                · rw [if_neg c9] at H
                  exact absurd H (by simp)
              · rw [if_neg c8] at H
                exact absurd H (by simp)
            · rw [if_neg c7] at H
              exact absurd H (by simp)
          · rw [if_neg c6] at H
            exact absurd H (by simp)
        · replace c5 := Bool.eq_false_iff.mpr c5
          subst c5
          have H1 : (spec_loWith.l0 k1 a0 a1 x5_1 (wrap64 (x6_1 + 1))) = some r := by rw [if_neg (show ¬ (false = true) by decide)] at H; exact H
          clear H
          have H := H1
          clear H1
          have H' := Aside0.mk H
          clear H
          go_wp2_with (first | ((with_reducible refine gate_callee (f := 96) rfl ?_); refine goesL_ (some 19) rfl rfl Tryz.func96 (by kernel_rfl) rfl #[.string a0, .int .u8 a1, .int .u8 ((wrap64 (97 + x6_1)) % 256)] rfl (by (try simp only [List.map_toArray, List.map_cons, List.map_nil]); first | done | rfl | (simp only [List.length_drop, List.length_take]; rfl)) ?_; (with_reducible refine (spec_loLaced.calls k1 a0 a1 ((wrap64 (97 + x6_1)) % 256) false _ A4.out).mono ?_); rintro e w' ⟨rfl, ⟨nd, rfl⟩⟩; refine ⟨_, rfl, ?_⟩))
          go_roundg k1
          case measure => have := HK1.out; omega
          case rel => exact ⟨(x5_1), (wrap64 (x6_1 + 1)), (by first | rfl | (simp; done) | (simp [*]; done)), (by first | rfl | (simp; done) | (simp [*]; done)), H', ⟨by have := HK1.out; omega⟩, by repeat (first | exact Drawn0.refl _ | apply Drawn0.step)⟩
      · rw [if_neg c3] at H
        have c3b0 : decide (x6_1 < (wrap64 ((a0.size : Int) / 2))) = false := decide_eq_false c3
        clear c3
        obtain rfl := Option.some.inj H
        go_wp2
        go_ret
        exact ⟨by first | rfl | (simp; done) | (simp [*]; done), by repeat (first | exact Drawn0.refl _ | apply Drawn0.step)⟩

end Go.Proofs.YtcgoaipbfnhjhaaGreatDoor.Pr

-- Written by a program for this claim.
namespace Go.Proofs.YtcgoaipbfnhjhaaGreatDoor.Pr
open Go.RowKit Go.Proofs.YtcgoaipbfnhjhaaGreatDoorW.PrintWords Go.Proofs.YtcgoaipbfnhjhaaGreatDoorW.PrintLast Go.Proofs.YtcgoaipbfnhjhaaGreatDoorW.PrintMore
attribute [local go_sem] max2_int min2_int max_two min_two max_three min_three max_four min_four   -- for this text's walks alone
set_option linter.unusedVariables false
set_option linter.unusedSimpArgs false

/-! ### spec_loEven: function 81 -/
def spec_loEven.l0 : Nat → ByteArray → Int → Option (Bool)
  | 0, _, _ => none
  | k + 1, x0, x3 => if x3 < (wrap64 ((x0.size : Int) / 2)) then ((spec_loWith.f k x0 ((wrap64 (97 + x3)) % 256)).bind fun t189 => (if ((t189.size : Int) % 2) = 0 then (spec_loEven.l0 k x0 (wrap64 (x3 + 1))) else (some false))) else (some true)
def spec_loEven.f (k : Nat) (a0 : ByteArray) : Option (Bool) := spec_loEven.l0 k a0 0
theorem spec_loEven.mono_l : ∀ k, (∀ y0 y1, LeO (spec_loEven.l0 k y0 y1) (spec_loEven.l0 (k + 1) y0 y1))
  | 0 => fun _ _ r h => by simp [spec_loEven.l0] at h
  | k + 1 => by
    have ih0 := spec_loEven.mono_l k
    · intro y0 y1
      unfold spec_loEven.l0
      repeat' first
      | (with_reducible exact ih0 _ _)
      | (with_reducible exact spec_loWith.mono _ _ _)
      | (with_reducible exact LeO.refl _)
      | (with_reducible exact LeO.none _)
      | (with_reducible refine LeO.ite ?_ ?_)
      | (with_reducible refine LeO.bind ?_ (fun _ => ?_))
      | exact ih0 _ _
      | exact spec_loWith.mono _ _ _
      | exact LeO.none _
      | refine LeO.ite ?_ ?_
      | refine LeO.bind ?_ (fun _ => ?_)
theorem spec_loEven.mono : ∀ a0 k, LeO (spec_loEven.f k a0) (spec_loEven.f (k + 1) a0) := by
  intro a0 k
  have ih0 := spec_loEven.mono_l k
  unfold spec_loEven.f
  repeat' first
      | (with_reducible exact ih0 _ _)
      | (with_reducible exact spec_loWith.mono _ _ _)
      | (with_reducible exact LeO.refl _)
      | (with_reducible exact LeO.none _)
      | (with_reducible refine LeO.ite ?_ ?_)
      | (with_reducible refine LeO.bind ?_ (fun _ => ?_))
      | exact ih0 _ _
      | exact spec_loWith.mono _ _ _
      | exact LeO.none _
      | refine LeO.ite ?_ ?_
      | refine LeO.bind ?_ (fun _ => ?_)
set_option maxHeartbeats 8000000 in
set_option maxRecDepth 100000 in
theorem spec_loEven.calls (k : Nat) (a0 : ByteArray) (r : Bool) (w : World) (h : spec_loEven.f k a0 = some r) :
    Calls Tryz.prog 81 #[.string a0] w fun e w' => e = .returned (.bool r) ∧ Drawn0 w w' := by
  have H : (spec_loEven.l0 k a0 0) = some r := h
  clear h
  have H' := Aside0.mk H
  clear H
  go_enter Tryz.func81, Tryz.ntmps81
  go_wp2
  go_loopg [3] k (fun kq v3 w' => ∃ (x3_1 : Int), v3 = .int .i64 x3_1 ∧ Aside0 (spec_loEven.l0 kq a0 x3_1 = some r) ∧ Aside0 (kq ≤ k) ∧ Drawn0 w w')
  case atStart => exact ⟨(0), (by first | rfl | (simp; done) | (simp [*]; done)), H', ⟨Nat.le_refl _⟩, by repeat (first | exact Drawn0.refl _ | apply Drawn0.step)⟩
  case round =>
    clear H'
    obtain ⟨x3_1, rfl, HA, HK1, ⟨m1, rfl⟩⟩ := hrel
    cases gk with
    | zero => exact absurd HA.out (by simp [spec_loEven.l0])
    | succ k1 =>
      have H := HA.out
      clear HA
      simp only [spec_loEven.l0] at H
      by_cases c2 : x3_1 < (wrap64 ((a0.size : Int) / 2))
      · rw [if_pos c2] at H
        have c2b0 : decide (x3_1 < (wrap64 ((a0.size : Int) / 2))) = true := decide_eq_true c2
        clear c2
        replace H := Option.bind_eq_some_iff.mp H
        obtain ⟨t189, A30, H⟩ := H
        replace H : (if ((t189.size : Int) % 2) = 0 then (spec_loEven.l0 k1 a0 (wrap64 (x3_1 + 1))) else (some false)) = some r := H
        have A3 := Aside0.mk A30
        clear A30
        by_cases c4 : ((t189.size : Int) % 2) = 0
        · rw [if_pos c4] at H
          have c4b0 : (((t189.size : Int) % 2) == 0) = true := beq_iff_eq.mpr c4
          have c4b1 : (((t189.size : Int) % 2) != 0) = false := bne_eq_false_iff_eq.mpr c4
          clear c4
          have H' := Aside0.mk H
          clear H
          go_wp2_with (first | ((with_reducible refine gate_callee (f := 97) rfl ?_); refine goesL_ (some 15) rfl rfl Tryz.func97 (by kernel_rfl) rfl #[.string a0, .int .u8 ((wrap64 (97 + x3_1)) % 256)] rfl (by (try simp only [List.map_toArray, List.map_cons, List.map_nil]); first | done | rfl | (simp only [List.length_drop, List.length_take]; rfl)) ?_; (with_reducible refine (spec_loWith.calls k1 a0 ((wrap64 (97 + x3_1)) % 256) t189 _ A3.out).mono ?_); rintro e w' ⟨rfl, ⟨nd, rfl⟩⟩; refine ⟨_, rfl, ?_⟩))
          go_roundg k1
          case measure => have := HK1.out; omega
          case rel => exact ⟨(wrap64 (x3_1 + 1)), (by first | rfl | (simp; done) | (simp [*]; done)), H', ⟨by have := HK1.out; omega⟩, by repeat (first | exact Drawn0.refl _ | apply Drawn0.step)⟩
        · rw [if_neg c4] at H
          have c4b0 : (((t189.size : Int) % 2) == 0) = false := beq_eq_false_iff_ne.mpr c4
          have c4b1 : (((t189.size : Int) % 2) != 0) = true := bne_iff_ne.mpr c4
          obtain rfl := Option.some.inj H
          go_wp2_with (first | ((with_reducible refine gate_callee (f := 97) rfl ?_); refine goesL_ (some 15) rfl rfl Tryz.func97 (by kernel_rfl) rfl #[.string a0, .int .u8 ((wrap64 (97 + x3_1)) % 256)] rfl (by (try simp only [List.map_toArray, List.map_cons, List.map_nil]); first | done | rfl | (simp only [List.length_drop, List.length_take]; rfl)) ?_; (with_reducible refine (spec_loWith.calls k1 a0 ((wrap64 (97 + x3_1)) % 256) t189 _ A3.out).mono ?_); rintro e w' ⟨rfl, ⟨nd, rfl⟩⟩; refine ⟨_, rfl, ?_⟩))
          go_ret
          exact ⟨by first | rfl | (simp; done) | (simp [*]; done), by repeat (first | exact Drawn0.refl _ | apply Drawn0.step)⟩
      · rw [if_neg c2] at H
        have c2b0 : decide (x3_1 < (wrap64 ((a0.size : Int) / 2))) = false := decide_eq_false c2
        clear c2
        obtain rfl := Option.some.inj H
        go_wp2
        go_ret
        exact ⟨by first | rfl | (simp; done) | (simp [*]; done), by repeat (first | exact Drawn0.refl _ | apply Drawn0.step)⟩

end Go.Proofs.YtcgoaipbfnhjhaaGreatDoor.Pr

-- Written by a program for this claim.
namespace Go.Proofs.YtcgoaipbfnhjhaaGreatDoor.Pr
open Go.RowKit Go.Proofs.YtcgoaipbfnhjhaaGreatDoorW.PrintWords Go.Proofs.YtcgoaipbfnhjhaaGreatDoorW.PrintLast Go.Proofs.YtcgoaipbfnhjhaaGreatDoorW.PrintMore
attribute [local go_sem] max2_int min2_int max_two min_two max_three min_three max_four min_four   -- for this text's walks alone
set_option linter.unusedVariables false
set_option linter.unusedSimpArgs false

/-! ### spec_loBoth: function 114 -/
def spec_loBoth.l0 : Nat → ByteArray → Int → Int → Int → Int → Option (Int)
  | 0, _, _, _, _, _ => none
  | k + 1, x0, x1, x2, x7, x8 => if x8 < (wrap64 ((x0.size : Int) / 2)) then ((spec_loLaced.f k x0 x1 ((wrap64 (97 + x8)) % 256)).bind fun t190 => (if t190 = true then ((spec_loLaced.f k x0 x2 ((wrap64 (97 + x8)) % 256)).bind fun t191 => (if t191 = true then (spec_loBoth.l0 k x0 x1 x2 (wrap64 (x7 + 1)) (wrap64 (x8 + 1))) else (spec_loBoth.l0 k x0 x1 x2 x7 (wrap64 (x8 + 1))))) else (spec_loBoth.l0 k x0 x1 x2 x7 (wrap64 (x8 + 1))))) else (some x7)
def spec_loBoth.f (k : Nat) (a0 : ByteArray) (a1 : Int) (a2 : Int) : Option (Int) := spec_loBoth.l0 k a0 a1 a2 0 0
theorem spec_loBoth.mono_l : ∀ k, (∀ y0 y1 y2 y3 y4, LeO (spec_loBoth.l0 k y0 y1 y2 y3 y4) (spec_loBoth.l0 (k + 1) y0 y1 y2 y3 y4))
  | 0 => fun _ _ _ _ _ r h => by simp [spec_loBoth.l0] at h
  | k + 1 => by
    have ih0 := spec_loBoth.mono_l k
    · intro y0 y1 y2 y3 y4
      unfold spec_loBoth.l0
      repeat' first
      | (with_reducible exact ih0 _ _ _ _ _)
      | (with_reducible exact spec_loLaced.mono _ _ _ _)
      | (with_reducible exact LeO.refl _)
      | (with_reducible exact LeO.none _)
      | (with_reducible refine LeO.ite ?_ ?_)
      | (with_reducible refine LeO.bind ?_ (fun _ => ?_))
      | exact ih0 _ _ _ _ _
      | exact spec_loLaced.mono _ _ _ _
      | exact LeO.none _
      | refine LeO.ite ?_ ?_
      | refine LeO.bind ?_ (fun _ => ?_)
theorem spec_loBoth.mono : ∀ a0 a1 a2 k, LeO (spec_loBoth.f k a0 a1 a2) (spec_loBoth.f (k + 1) a0 a1 a2) := by
  intro a0 a1 a2 k
  have ih0 := spec_loBoth.mono_l k
  unfold spec_loBoth.f
  repeat' first
      | (with_reducible exact ih0 _ _ _ _ _)
      | (with_reducible exact spec_loLaced.mono _ _ _ _)
      | (with_reducible exact LeO.refl _)
      | (with_reducible exact LeO.none _)
      | (with_reducible refine LeO.ite ?_ ?_)
      | (with_reducible refine LeO.bind ?_ (fun _ => ?_))
      | exact ih0 _ _ _ _ _
      | exact spec_loLaced.mono _ _ _ _
      | exact LeO.none _
      | refine LeO.ite ?_ ?_
      | refine LeO.bind ?_ (fun _ => ?_)
set_option maxHeartbeats 8000000 in
set_option maxRecDepth 100000 in
theorem spec_loBoth.calls (k : Nat) (a0 : ByteArray) (a1 : Int) (a2 : Int) (r : Int) (w : World) (h : spec_loBoth.f k a0 a1 a2 = some r) :
    Calls Tryz.prog 114 #[.string a0, .int .u8 a1, .int .u8 a2] w fun e w' => e = .returned (.int .i64 r) ∧ Drawn0 w w' := by
  have H : (spec_loBoth.l0 k a0 a1 a2 0 0) = some r := h
  clear h
  have H' := Aside0.mk H
  clear H
  go_enter Tryz.func114, Tryz.ntmps114
  go_wp2
  go_loopg [7, 8] k (fun kq v7 v8 w' => ∃ (x7_1 : Int) (x8_1 : Int), v7 = .int .i64 x7_1 ∧ v8 = .int .i64 x8_1 ∧ Aside0 (spec_loBoth.l0 kq a0 a1 a2 x7_1 x8_1 = some r) ∧ Aside0 (kq ≤ k) ∧ Drawn0 w w')
  case atStart => exact ⟨(0), (0), (by first | rfl | (simp; done) | (simp [*]; done)), (by first | rfl | (simp; done) | (simp [*]; done)), H', ⟨Nat.le_refl _⟩, by repeat (first | exact Drawn0.refl _ | apply Drawn0.step)⟩
  case round =>
    clear H'
    try clear c1
    try clear p2
    obtain ⟨x7_1, x8_1, rfl, rfl, HA, HK1, ⟨m1, rfl⟩⟩ := hrel
    cases gk with
    | zero => exact absurd HA.out (by simp [spec_loBoth.l0])
    | succ k1 =>
      have H := HA.out
      clear HA
      simp only [spec_loBoth.l0] at H
      by_cases c4 : x8_1 < (wrap64 ((a0.size : Int) / 2))
      · rw [if_pos c4] at H
        have c4b0 : decide (x8_1 < (wrap64 ((a0.size : Int) / 2))) = true := decide_eq_true c4
        clear c4
        replace H := Option.bind_eq_some_iff.mp H
        obtain ⟨t190, A50, H⟩ := H
        replace H : (if t190 = true then ((spec_loLaced.f k1 a0 a2 ((wrap64 (97 + x8_1)) % 256)).bind fun t191 => (if t191 = true then (spec_loBoth.l0 k1 a0 a1 a2 (wrap64 (x7_1 + 1)) (wrap64 (x8_1 + 1))) else (spec_loBoth.l0 k1 a0 a1 a2 x7_1 (wrap64 (x8_1 + 1))))) else (spec_loBoth.l0 k1 a0 a1 a2 x7_1 (wrap64 (x8_1 + 1)))) = some r := H
        have A5 := Aside0.mk A50
        clear A50
        by_cases c6 : t190 = true
        · subst c6
          have H1 : ((spec_loLaced.f k1 a0 a2 ((wrap64 (97 + x8_1)) % 256)).bind fun t191 => (if t191 = true then (spec_loBoth.l0 k1 a0 a1 a2 (wrap64 (x7_1 + 1)) (wrap64 (x8_1 + 1))) else (spec_loBoth.l0 k1 a0 a1 a2 x7_1 (wrap64 (x8_1 + 1))))) = some r := by rw [if_pos rfl] at H; exact H
          clear H
          have H := H1
          clear H1
          replace H := Option.bind_eq_some_iff.mp H
          obtain ⟨t191, A70, H⟩ := H
          replace H : (if t191 = true then (spec_loBoth.l0 k1 a0 a1 a2 (wrap64 (x7_1 + 1)) (wrap64 (x8_1 + 1))) else (spec_loBoth.l0 k1 a0 a1 a2 x7_1 (wrap64 (x8_1 + 1)))) = some r := H
          have A7 := Aside0.mk A70
          clear A70
          by_cases c8 : t191 = true
          · subst c8
            have H1 : (spec_loBoth.l0 k1 a0 a1 a2 (wrap64 (x7_1 + 1)) (wrap64 (x8_1 + 1))) = some r := by rw [if_pos rfl] at H; exact H
            clear H
            have H := H1
            clear H1
            have H' := Aside0.mk H
            clear H
            go_wp2_with (first | ((with_reducible refine gate_callee (f := 96) rfl ?_); refine goesL_ (some 21) rfl rfl Tryz.func96 (by kernel_rfl) rfl #[.string a0, .int .u8 a1, .int .u8 ((wrap64 (97 + x8_1)) % 256)] rfl (by (try simp only [List.map_toArray, List.map_cons, List.map_nil]); first | done | rfl | (simp only [List.length_drop, List.length_take]; rfl)) ?_; (with_reducible refine (spec_loLaced.calls k1 a0 a1 ((wrap64 (97 + x8_1)) % 256) true _ A5.out).mono ?_); rintro e w' ⟨rfl, ⟨nd, rfl⟩⟩; refine ⟨_, rfl, ?_⟩) | (go_at_call 96; (with_reducible refine (spec_loLaced.calls k1 a0 a2 ((wrap64 (97 + x8_1)) % 256) true _ A7.out).mono ?_); rintro e w' ⟨rfl, ⟨nd, rfl⟩⟩))
            go_roundg k1
            case measure => have := HK1.out; omega
            case rel => exact ⟨(wrap64 (x7_1 + 1)), (wrap64 (x8_1 + 1)), (by first | rfl | (simp; done) | (simp [*]; done)), (by first | rfl | (simp; done) | (simp [*]; done)), H', ⟨by have := HK1.out; omega⟩, by repeat (first | exact Drawn0.refl _ | apply Drawn0.step)⟩
          · replace c8 := Bool.eq_false_iff.mpr c8
            subst c8
            have H1 : (spec_loBoth.l0 k1 a0 a1 a2 x7_1 (wrap64 (x8_1 + 1))) = some r := by rw [if_neg (show ¬ (false = true) by decide)] at H; exact H
            clear H
            have H := H1
            clear H1
            have H' := Aside0.mk H
            clear H
            go_wp2_with (first | ((with_reducible refine gate_callee (f := 96) rfl ?_); refine goesL_ (some 21) rfl rfl Tryz.func96 (by kernel_rfl) rfl #[.string a0, .int .u8 a1, .int .u8 ((wrap64 (97 + x8_1)) % 256)] rfl (by (try simp only [List.map_toArray, List.map_cons, List.map_nil]); first | done | rfl | (simp only [List.length_drop, List.length_take]; rfl)) ?_; (with_reducible refine (spec_loLaced.calls k1 a0 a1 ((wrap64 (97 + x8_1)) % 256) true _ A5.out).mono ?_); rintro e w' ⟨rfl, ⟨nd, rfl⟩⟩; refine ⟨_, rfl, ?_⟩) | (go_at_call 96; (with_reducible refine (spec_loLaced.calls k1 a0 a2 ((wrap64 (97 + x8_1)) % 256) false _ A7.out).mono ?_); rintro e w' ⟨rfl, ⟨nd, rfl⟩⟩))
            go_roundg k1
            case measure => have := HK1.out; omega
            case rel => exact ⟨(x7_1), (wrap64 (x8_1 + 1)), (by first | rfl | (simp; done) | (simp [*]; done)), (by first | rfl | (simp; done) | (simp [*]; done)), H', ⟨by have := HK1.out; omega⟩, by repeat (first | exact Drawn0.refl _ | apply Drawn0.step)⟩
        · replace c6 := Bool.eq_false_iff.mpr c6
          subst c6
          have H1 : (spec_loBoth.l0 k1 a0 a1 a2 x7_1 (wrap64 (x8_1 + 1))) = some r := by rw [if_neg (show ¬ (false = true) by decide)] at H; exact H
          clear H
          have H := H1
          clear H1
          have H' := Aside0.mk H
          clear H
          go_wp2_with (first | ((with_reducible refine gate_callee (f := 96) rfl ?_); refine goesL_ (some 21) rfl rfl Tryz.func96 (by kernel_rfl) rfl #[.string a0, .int .u8 a1, .int .u8 ((wrap64 (97 + x8_1)) % 256)] rfl (by (try simp only [List.map_toArray, List.map_cons, List.map_nil]); first | done | rfl | (simp only [List.length_drop, List.length_take]; rfl)) ?_; (with_reducible refine (spec_loLaced.calls k1 a0 a1 ((wrap64 (97 + x8_1)) % 256) false _ A5.out).mono ?_); rintro e w' ⟨rfl, ⟨nd, rfl⟩⟩; refine ⟨_, rfl, ?_⟩))
          go_roundg k1
          case measure => have := HK1.out; omega
          case rel => exact ⟨(x7_1), (wrap64 (x8_1 + 1)), (by first | rfl | (simp; done) | (simp [*]; done)), (by first | rfl | (simp; done) | (simp [*]; done)), H', ⟨by have := HK1.out; omega⟩, by repeat (first | exact Drawn0.refl _ | apply Drawn0.step)⟩
      · rw [if_neg c4] at H
        have c4b0 : decide (x8_1 < (wrap64 ((a0.size : Int) / 2))) = false := decide_eq_false c4
        clear c4
        obtain rfl := Option.some.inj H
        go_wp2
        go_ret
        exact ⟨by first | rfl | (simp; done) | (simp [*]; done), by repeat (first | exact Drawn0.refl _ | apply Drawn0.step)⟩

end Go.Proofs.YtcgoaipbfnhjhaaGreatDoor.Pr

-- Written by a program for this claim.
namespace Go.Proofs.YtcgoaipbfnhjhaaGreatDoor.Pr
open Go.RowKit Go.Proofs.YtcgoaipbfnhjhaaGreatDoorW.PrintWords Go.Proofs.YtcgoaipbfnhjhaaGreatDoorW.PrintLast Go.Proofs.YtcgoaipbfnhjhaaGreatDoorW.PrintMore
attribute [local go_sem] max2_int min2_int max_two min_two max_three min_three max_four min_four   -- for this text's walks alone
set_option linter.unusedVariables false
set_option linter.unusedSimpArgs false

/-! ### spec_loDrawn: function 69 -/
mutual
def spec_loDrawn.l0 : Nat → ByteArray → Int → Int → Option (Bool)
  | 0, _, _, _ => none
  | k + 1, x0, x3, x4 => if x4 < x3 then (spec_loDrawn.l1 k x0 x3 x4 0) else (spec_loDrawn.l2 k x0 x3 0)
def spec_loDrawn.l1 : Nat → ByteArray → Int → Int → Int → Option (Bool)
  | 0, _, _, _, _ => none
  | k + 1, x0, x3, x4, x5 => if x5 < x4 then ((spec_loLaced.f k x0 ((wrap64 (97 + x4)) % 256) ((wrap64 (97 + x5)) % 256)).bind fun t193 => (if t193 = true then (spec_loDrawn.l1 k x0 x3 x4 (wrap64 (x5 + 1))) else ((spec_loBoth.f k x0 ((wrap64 (97 + x4)) % 256) ((wrap64 (97 + x5)) % 256)).bind fun t194 => (if (Int.tmod t194 2) = 0 then (spec_loDrawn.l1 k x0 x3 x4 (wrap64 (x5 + 1))) else (some false))))) else (spec_loDrawn.l0 k x0 x3 (wrap64 (x4 + 1)))
def spec_loDrawn.l2 : Nat → ByteArray → Int → Int → Option (Bool)
  | 0, _, _, _ => none
  | k + 1, x0, x3, x8 => if 0 ≤ x3 then (if x8 < (shl .i64 1 x3) then (spec_loDrawn.l3 k x0 x3 x8 true 0) else (some false)) else (none)
def spec_loDrawn.l3 : Nat → ByteArray → Int → Int → Bool → Int → Option (Bool)
  | 0, _, _, _, _, _ => none
  | k + 1, x0, x3, x8, x9, x10 => if x10 < x3 then (spec_loDrawn.j4 k x0 x3 x8 x9 x10 x9) else (spec_loDrawn.j4 k x0 x3 x8 x9 x10 false)
def spec_loDrawn.j4 : Nat → ByteArray → Int → Int → Bool → Int → Bool → Option (Bool)
  | 0, _, _, _, _, _, _ => none
  | k + 1, x0, x3, x8, x9, x10, x60 => if x60 = true then (spec_loDrawn.l4 k x0 x3 x8 x9 x10 0) else (if x9 = true then (some true) else (spec_loDrawn.l2 k x0 x3 (wrap64 (x8 + 1))))
def spec_loDrawn.l4 : Nat → ByteArray → Int → Int → Bool → Int → Int → Option (Bool)
  | 0, _, _, _, _, _, _ => none
  | k + 1, x0, x3, x8, x9, x10, x11 => if x11 < x10 then ((spec_loLaced.f k x0 ((wrap64 (97 + x10)) % 256) ((wrap64 (97 + x11)) % 256)).bind fun t195 => (if t195 = true then (if 0 ≤ x10 then (if 0 ≤ x11 then ((spec_loBoth.f k x0 ((wrap64 (97 + x10)) % 256) ((wrap64 (97 + x11)) % 256)).bind fun t196 => (if (((Go.bits .and .i64 (shr .i64 x8 x10) 1) != (Go.bits .and .i64 (shr .i64 x8 x11) 1)) != ((Int.tmod t196 2) == 0)) = true then (spec_loDrawn.l4 k x0 x3 x8 false x10 (wrap64 (x11 + 1))) else (spec_loDrawn.l4 k x0 x3 x8 x9 x10 (wrap64 (x11 + 1))))) else (none)) else (none)) else (spec_loDrawn.l4 k x0 x3 x8 x9 x10 (wrap64 (x11 + 1))))) else (spec_loDrawn.l3 k x0 x3 x8 x9 (wrap64 (x10 + 1)))
end
def spec_loDrawn.f (k : Nat) (a0 : ByteArray) : Option (Bool) := (spec_loEven.f k a0).bind fun t192 => (if t192 = true then (spec_loDrawn.l0 k a0 (wrap64 ((a0.size : Int) / 2)) 0) else (some false))
theorem spec_loDrawn.mono_l : ∀ k, (∀ y0 y1 y2, LeO (spec_loDrawn.l0 k y0 y1 y2) (spec_loDrawn.l0 (k + 1) y0 y1 y2)) ∧ (∀ y0 y1 y2 y3, LeO (spec_loDrawn.l1 k y0 y1 y2 y3) (spec_loDrawn.l1 (k + 1) y0 y1 y2 y3)) ∧ (∀ y0 y1 y2, LeO (spec_loDrawn.l2 k y0 y1 y2) (spec_loDrawn.l2 (k + 1) y0 y1 y2)) ∧ (∀ y0 y1 y2 y3 y4, LeO (spec_loDrawn.l3 k y0 y1 y2 y3 y4) (spec_loDrawn.l3 (k + 1) y0 y1 y2 y3 y4)) ∧ (∀ y0 y1 y2 y3 y4 y5, LeO (spec_loDrawn.j4 k y0 y1 y2 y3 y4 y5) (spec_loDrawn.j4 (k + 1) y0 y1 y2 y3 y4 y5)) ∧ (∀ y0 y1 y2 y3 y4 y5, LeO (spec_loDrawn.l4 k y0 y1 y2 y3 y4 y5) (spec_loDrawn.l4 (k + 1) y0 y1 y2 y3 y4 y5))
  | 0 => ⟨fun _ _ _ r h => by simp [spec_loDrawn.l0] at h, fun _ _ _ _ r h => by simp [spec_loDrawn.l1] at h, fun _ _ _ r h => by simp [spec_loDrawn.l2] at h, fun _ _ _ _ _ r h => by simp [spec_loDrawn.l3] at h, fun _ _ _ _ _ _ r h => by simp [spec_loDrawn.j4] at h, fun _ _ _ _ _ _ r h => by simp [spec_loDrawn.l4] at h⟩
  | k + 1 => by
    obtain ⟨ih0, ih1, ih2, ih3, ih4, ih5⟩ := spec_loDrawn.mono_l k
    refine ⟨?_, ?_, ?_, ?_, ?_, ?_⟩
    · intro y0 y1 y2
      unfold spec_loDrawn.l0
      repeat' first
      | (with_reducible exact ih0 _ _ _)
      | (with_reducible exact ih1 _ _ _ _)
      | (with_reducible exact ih2 _ _ _)
      | (with_reducible exact ih3 _ _ _ _ _)
      | (with_reducible exact ih4 _ _ _ _ _ _)
      | (with_reducible exact ih5 _ _ _ _ _ _)
      | (with_reducible exact spec_loBoth.mono _ _ _ _)
      | (with_reducible exact spec_loEven.mono _ _)
      | (with_reducible exact spec_loLaced.mono _ _ _ _)
      | (with_reducible exact LeO.refl _)
      | (with_reducible exact LeO.none _)
      | (with_reducible refine LeO.ite ?_ ?_)
      | (with_reducible refine LeO.bind ?_ (fun _ => ?_))
      | exact ih0 _ _ _
      | exact ih1 _ _ _ _
      | exact ih2 _ _ _
      | exact ih3 _ _ _ _ _
      | exact ih4 _ _ _ _ _ _
      | exact ih5 _ _ _ _ _ _
      | exact spec_loBoth.mono _ _ _ _
      | exact spec_loEven.mono _ _
      | exact spec_loLaced.mono _ _ _ _
      | exact LeO.none _
      | refine LeO.ite ?_ ?_
      | refine LeO.bind ?_ (fun _ => ?_)
    · intro y0 y1 y2 y3
      unfold spec_loDrawn.l1
      repeat' first
      | (with_reducible exact ih0 _ _ _)
      | (with_reducible exact ih1 _ _ _ _)
      | (with_reducible exact ih2 _ _ _)
      | (with_reducible exact ih3 _ _ _ _ _)
      | (with_reducible exact ih4 _ _ _ _ _ _)
      | (with_reducible exact ih5 _ _ _ _ _ _)
      | (with_reducible exact spec_loBoth.mono _ _ _ _)
      | (with_reducible exact spec_loEven.mono _ _)
      | (with_reducible exact spec_loLaced.mono _ _ _ _)
      | (with_reducible exact LeO.refl _)
      | (with_reducible exact LeO.none _)
      | (with_reducible refine LeO.ite ?_ ?_)
      | (with_reducible refine LeO.bind ?_ (fun _ => ?_))
      | exact ih0 _ _ _
      | exact ih1 _ _ _ _
      | exact ih2 _ _ _
      | exact ih3 _ _ _ _ _
      | exact ih4 _ _ _ _ _ _
      | exact ih5 _ _ _ _ _ _
      | exact spec_loBoth.mono _ _ _ _
      | exact spec_loEven.mono _ _
      | exact spec_loLaced.mono _ _ _ _
      | exact LeO.none _
      | refine LeO.ite ?_ ?_
      | refine LeO.bind ?_ (fun _ => ?_)
    · intro y0 y1 y2
      unfold spec_loDrawn.l2
      repeat' first
      | (with_reducible exact ih0 _ _ _)
      | (with_reducible exact ih1 _ _ _ _)
      | (with_reducible exact ih2 _ _ _)
      | (with_reducible exact ih3 _ _ _ _ _)
      | (with_reducible exact ih4 _ _ _ _ _ _)
      | (with_reducible exact ih5 _ _ _ _ _ _)
      | (with_reducible exact spec_loBoth.mono _ _ _ _)
      | (with_reducible exact spec_loEven.mono _ _)
      | (with_reducible exact spec_loLaced.mono _ _ _ _)
      | (with_reducible exact LeO.refl _)
      | (with_reducible exact LeO.none _)
      | (with_reducible refine LeO.ite ?_ ?_)
      | (with_reducible refine LeO.bind ?_ (fun _ => ?_))
      | exact ih0 _ _ _
      | exact ih1 _ _ _ _
      | exact ih2 _ _ _
      | exact ih3 _ _ _ _ _
      | exact ih4 _ _ _ _ _ _
      | exact ih5 _ _ _ _ _ _
      | exact spec_loBoth.mono _ _ _ _
      | exact spec_loEven.mono _ _
      | exact spec_loLaced.mono _ _ _ _
      | exact LeO.none _
      | refine LeO.ite ?_ ?_
      | refine LeO.bind ?_ (fun _ => ?_)
    · intro y0 y1 y2 y3 y4
      unfold spec_loDrawn.l3
      repeat' first
      | (with_reducible exact ih0 _ _ _)
      | (with_reducible exact ih1 _ _ _ _)
      | (with_reducible exact ih2 _ _ _)
      | (with_reducible exact ih3 _ _ _ _ _)
      | (with_reducible exact ih4 _ _ _ _ _ _)
      | (with_reducible exact ih5 _ _ _ _ _ _)
      | (with_reducible exact spec_loBoth.mono _ _ _ _)
      | (with_reducible exact spec_loEven.mono _ _)
      | (with_reducible exact spec_loLaced.mono _ _ _ _)
      | (with_reducible exact LeO.refl _)
      | (with_reducible exact LeO.none _)
      | (with_reducible refine LeO.ite ?_ ?_)
      | (with_reducible refine LeO.bind ?_ (fun _ => ?_))
      | exact ih0 _ _ _
      | exact ih1 _ _ _ _
      | exact ih2 _ _ _
      | exact ih3 _ _ _ _ _
      | exact ih4 _ _ _ _ _ _
      | exact ih5 _ _ _ _ _ _
      | exact spec_loBoth.mono _ _ _ _
      | exact spec_loEven.mono _ _
      | exact spec_loLaced.mono _ _ _ _
      | exact LeO.none _
      | refine LeO.ite ?_ ?_
      | refine LeO.bind ?_ (fun _ => ?_)
    · intro y0 y1 y2 y3 y4 y5
      unfold spec_loDrawn.j4
      repeat' first
      | (with_reducible exact ih0 _ _ _)
      | (with_reducible exact ih1 _ _ _ _)
      | (with_reducible exact ih2 _ _ _)
      | (with_reducible exact ih3 _ _ _ _ _)
      | (with_reducible exact ih4 _ _ _ _ _ _)
      | (with_reducible exact ih5 _ _ _ _ _ _)
      | (with_reducible exact spec_loBoth.mono _ _ _ _)
      | (with_reducible exact spec_loEven.mono _ _)
      | (with_reducible exact spec_loLaced.mono _ _ _ _)
      | (with_reducible exact LeO.refl _)
      | (with_reducible exact LeO.none _)
      | (with_reducible refine LeO.ite ?_ ?_)
      | (with_reducible refine LeO.bind ?_ (fun _ => ?_))
      | exact ih0 _ _ _
      | exact ih1 _ _ _ _
      | exact ih2 _ _ _
      | exact ih3 _ _ _ _ _
      | exact ih4 _ _ _ _ _ _
      | exact ih5 _ _ _ _ _ _
      | exact spec_loBoth.mono _ _ _ _
      | exact spec_loEven.mono _ _
      | exact spec_loLaced.mono _ _ _ _
      | exact LeO.none _
      | refine LeO.ite ?_ ?_
      | refine LeO.bind ?_ (fun _ => ?_)
    · intro y0 y1 y2 y3 y4 y5
      unfold spec_loDrawn.l4
      repeat' first
      | (with_reducible exact ih0 _ _ _)
      | (with_reducible exact ih1 _ _ _ _)
      | (with_reducible exact ih2 _ _ _)
      | (with_reducible exact ih3 _ _ _ _ _)
      | (with_reducible exact ih4 _ _ _ _ _ _)
      | (with_reducible exact ih5 _ _ _ _ _ _)
      | (with_reducible exact spec_loBoth.mono _ _ _ _)
      | (with_reducible exact spec_loEven.mono _ _)
      | (with_reducible exact spec_loLaced.mono _ _ _ _)
      | (with_reducible exact LeO.refl _)
      | (with_reducible exact LeO.none _)
      | (with_reducible refine LeO.ite ?_ ?_)
      | (with_reducible refine LeO.bind ?_ (fun _ => ?_))
      | exact ih0 _ _ _
      | exact ih1 _ _ _ _
      | exact ih2 _ _ _
      | exact ih3 _ _ _ _ _
      | exact ih4 _ _ _ _ _ _
      | exact ih5 _ _ _ _ _ _
      | exact spec_loBoth.mono _ _ _ _
      | exact spec_loEven.mono _ _
      | exact spec_loLaced.mono _ _ _ _
      | exact LeO.none _
      | refine LeO.ite ?_ ?_
      | refine LeO.bind ?_ (fun _ => ?_)
theorem spec_loDrawn.mono : ∀ a0 k, LeO (spec_loDrawn.f k a0) (spec_loDrawn.f (k + 1) a0) := by
  intro a0 k
  obtain ⟨ih0, ih1, ih2, ih3, ih4, ih5⟩ := spec_loDrawn.mono_l k
  unfold spec_loDrawn.f
  repeat' first
      | (with_reducible exact ih0 _ _ _)
      | (with_reducible exact ih1 _ _ _ _)
      | (with_reducible exact ih2 _ _ _)
      | (with_reducible exact ih3 _ _ _ _ _)
      | (with_reducible exact ih4 _ _ _ _ _ _)
      | (with_reducible exact ih5 _ _ _ _ _ _)
      | (with_reducible exact spec_loBoth.mono _ _ _ _)
      | (with_reducible exact spec_loEven.mono _ _)
      | (with_reducible exact spec_loLaced.mono _ _ _ _)
      | (with_reducible exact LeO.refl _)
      | (with_reducible exact LeO.none _)
      | (with_reducible refine LeO.ite ?_ ?_)
      | (with_reducible refine LeO.bind ?_ (fun _ => ?_))
      | exact ih0 _ _ _
      | exact ih1 _ _ _ _
      | exact ih2 _ _ _
      | exact ih3 _ _ _ _ _
      | exact ih4 _ _ _ _ _ _
      | exact ih5 _ _ _ _ _ _
      | exact spec_loBoth.mono _ _ _ _
      | exact spec_loEven.mono _ _
      | exact spec_loLaced.mono _ _ _ _
      | exact LeO.none _
      | refine LeO.ite ?_ ?_
      | refine LeO.bind ?_ (fun _ => ?_)
set_option maxHeartbeats 8000000 in
set_option maxRecDepth 100000 in
theorem spec_loDrawn.calls (k : Nat) (a0 : ByteArray) (r : Bool) (w : World) (h : spec_loDrawn.f k a0 = some r) :
    Calls Tryz.prog 69 #[.string a0] w fun e w' => e = .returned (.bool r) ∧ Drawn0 w w' := by
  have H : ((spec_loEven.f k a0).bind fun t192 => (if t192 = true then (spec_loDrawn.l0 k a0 (wrap64 ((a0.size : Int) / 2)) 0) else (some false))) = some r := h
  clear h
  replace H := Option.bind_eq_some_iff.mp H
  obtain ⟨t192, A20, H⟩ := H
  replace H : (if t192 = true then (spec_loDrawn.l0 k a0 (wrap64 ((a0.size : Int) / 2)) 0) else (some false)) = some r := H
  have A2 := Aside0.mk A20
  clear A20
  by_cases c3 : t192 = true
  · subst c3
    have H1 : (spec_loDrawn.l0 k a0 (wrap64 ((a0.size : Int) / 2)) 0) = some r := by rw [if_pos rfl] at H; exact H
    clear H
    have H := H1
    clear H1
    have H' := Aside0.mk H
    clear H
    go_enter Tryz.func69, Tryz.ntmps69
    go_wp2_with (first | (go_at_call 81; (with_reducible refine (spec_loEven.calls k a0 true _ A2.out).mono ?_); rintro e w' ⟨rfl, ⟨nd, rfl⟩⟩; (try first | exact ⟨rfl, _, World.drewN_drewN _ _ _⟩ | exact ⟨rfl, _, Eq.trans (World.drewN_drewN _ _ _) (congrArg (World.drewN _) (Nat.add_assoc _ _ _))⟩)))
    repeat (go_quiet (first | (go_at_call 81; (with_reducible refine (spec_loEven.calls k a0 true _ A2.out).mono ?_); rintro e w' ⟨rfl, ⟨nd, rfl⟩⟩; (try first | exact ⟨rfl, _, World.drewN_drewN _ _ _⟩ | exact ⟨rfl, _, Eq.trans (World.drewN_drewN _ _ _) (congrArg (World.drewN _) (Nat.add_assoc _ _ _))⟩))); try go_wp2_with (first | (go_at_call 81; (with_reducible refine (spec_loEven.calls k a0 true _ A2.out).mono ?_); rintro e w' ⟨rfl, ⟨nd, rfl⟩⟩; (try first | exact ⟨rfl, _, World.drewN_drewN _ _ _⟩ | exact ⟨rfl, _, Eq.trans (World.drewN_drewN _ _ _) (congrArg (World.drewN _) (Nat.add_assoc _ _ _))⟩))))
    go_loopg [4] k (fun kq v4 w' => ∃ (x4_1 : Int), v4 = .int .i64 x4_1 ∧ Aside0 (spec_loDrawn.l0 kq a0 (wrap64 ((a0.size : Int) / 2)) x4_1 = some r) ∧ Aside0 (kq ≤ k) ∧ Drawn0 w w')
    case atStart => exact ⟨(0), (by first | rfl | (simp; done) | (simp [*]; done)), H', ⟨Nat.le_refl _⟩, by repeat (first | exact Drawn0.refl _ | apply Drawn0.step)⟩
    case round =>
      clear H'
      try clear p2
      try clear c3
      obtain ⟨x4_1, rfl, HA, HK1, ⟨m1, rfl⟩⟩ := hrel
      cases gk with
      | zero => exact absurd HA.out (by simp [spec_loDrawn.l0])
      | succ k1 =>
        have H := HA.out
        clear HA
        simp only [spec_loDrawn.l0] at H
        by_cases c4 : x4_1 < (wrap64 ((a0.size : Int) / 2))
        · rw [if_pos c4] at H
          have c4b0 : decide (x4_1 < (wrap64 ((a0.size : Int) / 2))) = true := decide_eq_true c4
          clear c4
          have H' := Aside0.mk H
          clear H
          go_wp2
          repeat (go_quiet (fail); try go_wp2)
          go_loopg [5] k1 (fun kq v5 w' => ∃ (x5_2 : Int), v5 = .int .i64 x5_2 ∧ Aside0 (spec_loDrawn.l1 kq a0 (wrap64 ((a0.size : Int) / 2)) x4_1 x5_2 = some r) ∧ Aside0 (kq ≤ k1) ∧ Drawn0 w w')
          case atStart => exact ⟨(0), (by first | rfl | (simp; done) | (simp [*]; done)), H', ⟨Nat.le_refl _⟩, by repeat (first | exact Drawn0.refl _ | apply Drawn0.step)⟩
          case round =>
            clear H'
            try clear p2
            try clear c3
            try clear c4
            try clear c4b0
            try clear p2
            obtain ⟨x5_2, rfl, HA, HK2, ⟨m2, rfl⟩⟩ := hrel
            cases gk with
            | zero => exact absurd HA.out (by simp [spec_loDrawn.l1])
            | succ k2 =>
              have H := HA.out
              clear HA
              simp only [spec_loDrawn.l1] at H
              by_cases c5 : x5_2 < x4_1
              · rw [if_pos c5] at H
                have c5b0 : decide (x5_2 < x4_1) = true := decide_eq_true c5
                clear c5
                replace H := Option.bind_eq_some_iff.mp H
                obtain ⟨t193, A60, H⟩ := H
                replace H : (if t193 = true then (spec_loDrawn.l1 k2 a0 (wrap64 ((a0.size : Int) / 2)) x4_1 (wrap64 (x5_2 + 1))) else ((spec_loBoth.f k2 a0 ((wrap64 (97 + x4_1)) % 256) ((wrap64 (97 + x5_2)) % 256)).bind fun t194 => (if (Int.tmod t194 2) = 0 then (spec_loDrawn.l1 k2 a0 (wrap64 ((a0.size : Int) / 2)) x4_1 (wrap64 (x5_2 + 1))) else (some false)))) = some r := H
                have A6 := Aside0.mk A60
                clear A60
                by_cases c7 : t193 = true
                · subst c7
                  have H1 : (spec_loDrawn.l1 k2 a0 (wrap64 ((a0.size : Int) / 2)) x4_1 (wrap64 (x5_2 + 1))) = some r := by rw [if_pos rfl] at H; exact H
                  clear H
                  have H := H1
                  clear H1
                  have H' := Aside0.mk H
                  clear H
                  go_wp2_with (first | (go_at_call 96; (with_reducible refine (spec_loLaced.calls k2 a0 ((wrap64 (97 + x4_1)) % 256) ((wrap64 (97 + x5_2)) % 256) true _ A6.out).mono ?_); rintro e w' ⟨rfl, ⟨nd, rfl⟩⟩; (try first | exact ⟨rfl, _, World.drewN_drewN _ _ _⟩ | exact ⟨rfl, _, Eq.trans (World.drewN_drewN _ _ _) (congrArg (World.drewN _) (Nat.add_assoc _ _ _))⟩)))
                  repeat (go_quiet (first | (go_at_call 96; (with_reducible refine (spec_loLaced.calls k2 a0 ((wrap64 (97 + x4_1)) % 256) ((wrap64 (97 + x5_2)) % 256) true _ A6.out).mono ?_); rintro e w' ⟨rfl, ⟨nd, rfl⟩⟩; (try first | exact ⟨rfl, _, World.drewN_drewN _ _ _⟩ | exact ⟨rfl, _, Eq.trans (World.drewN_drewN _ _ _) (congrArg (World.drewN _) (Nat.add_assoc _ _ _))⟩))); try go_wp2_with (first | (go_at_call 96; (with_reducible refine (spec_loLaced.calls k2 a0 ((wrap64 (97 + x4_1)) % 256) ((wrap64 (97 + x5_2)) % 256) true _ A6.out).mono ?_); rintro e w' ⟨rfl, ⟨nd, rfl⟩⟩; (try first | exact ⟨rfl, _, World.drewN_drewN _ _ _⟩ | exact ⟨rfl, _, Eq.trans (World.drewN_drewN _ _ _) (congrArg (World.drewN _) (Nat.add_assoc _ _ _))⟩))))
                  go_roundg k2
                  case measure => have := HK1.out; have := HK2.out; omega
                  case rel => exact ⟨(wrap64 (x5_2 + 1)), (by first | rfl | (simp; done) | (simp [*]; done)), H', ⟨by have := HK1.out; have := HK2.out; omega⟩, by repeat (first | exact Drawn0.refl _ | apply Drawn0.step)⟩
                · replace c7 := Bool.eq_false_iff.mpr c7
                  subst c7
                  have H1 : ((spec_loBoth.f k2 a0 ((wrap64 (97 + x4_1)) % 256) ((wrap64 (97 + x5_2)) % 256)).bind fun t194 => (if (Int.tmod t194 2) = 0 then (spec_loDrawn.l1 k2 a0 (wrap64 ((a0.size : Int) / 2)) x4_1 (wrap64 (x5_2 + 1))) else (some false))) = some r := by rw [if_neg (show ¬ (false = true) by decide)] at H; exact H
                  clear H
                  have H := H1
                  clear H1
                  replace H := Option.bind_eq_some_iff.mp H
                  obtain ⟨t194, A80, H⟩ := H
                  replace H : (if (Int.tmod t194 2) = 0 then (spec_loDrawn.l1 k2 a0 (wrap64 ((a0.size : Int) / 2)) x4_1 (wrap64 (x5_2 + 1))) else (some false)) = some r := H
                  have A8 := Aside0.mk A80
                  clear A80
                  by_cases c9 : (Int.tmod t194 2) = 0
                  · rw [if_pos c9] at H
                    have c9b0 : ((Int.tmod t194 2) == 0) = true := beq_iff_eq.mpr c9
                    have c9b1 : ((Int.tmod t194 2) != 0) = false := bne_eq_false_iff_eq.mpr c9
                    clear c9
                    have H' := Aside0.mk H
                    clear H
                    go_wp2_with (first | (go_at_call 96; (with_reducible refine (spec_loLaced.calls k2 a0 ((wrap64 (97 + x4_1)) % 256) ((wrap64 (97 + x5_2)) % 256) false _ A6.out).mono ?_); rintro e w' ⟨rfl, ⟨nd, rfl⟩⟩; (try first | exact ⟨rfl, _, World.drewN_drewN _ _ _⟩ | exact ⟨rfl, _, Eq.trans (World.drewN_drewN _ _ _) (congrArg (World.drewN _) (Nat.add_assoc _ _ _))⟩)) | (go_at_call 114; (with_reducible refine (spec_loBoth.calls k2 a0 ((wrap64 (97 + x4_1)) % 256) ((wrap64 (97 + x5_2)) % 256) t194 _ A8.out).mono ?_); rintro e w' ⟨rfl, ⟨nd, rfl⟩⟩; (try first | exact ⟨rfl, _, World.drewN_drewN _ _ _⟩ | exact ⟨rfl, _, Eq.trans (World.drewN_drewN _ _ _) (congrArg (World.drewN _) (Nat.add_assoc _ _ _))⟩)))
                    repeat (go_quiet (first | (go_at_call 96; (with_reducible refine (spec_loLaced.calls k2 a0 ((wrap64 (97 + x4_1)) % 256) ((wrap64 (97 + x5_2)) % 256) false _ A6.out).mono ?_); rintro e w' ⟨rfl, ⟨nd, rfl⟩⟩; (try first | exact ⟨rfl, _, World.drewN_drewN _ _ _⟩ | exact ⟨rfl, _, Eq.trans (World.drewN_drewN _ _ _) (congrArg (World.drewN _) (Nat.add_assoc _ _ _))⟩)) | (go_at_call 114; (with_reducible refine (spec_loBoth.calls k2 a0 ((wrap64 (97 + x4_1)) % 256) ((wrap64 (97 + x5_2)) % 256) t194 _ A8.out).mono ?_); rintro e w' ⟨rfl, ⟨nd, rfl⟩⟩; (try first | exact ⟨rfl, _, World.drewN_drewN _ _ _⟩ | exact ⟨rfl, _, Eq.trans (World.drewN_drewN _ _ _) (congrArg (World.drewN _) (Nat.add_assoc _ _ _))⟩))); try go_wp2_with (first | (go_at_call 96; (with_reducible refine (spec_loLaced.calls k2 a0 ((wrap64 (97 + x4_1)) % 256) ((wrap64 (97 + x5_2)) % 256) false _ A6.out).mono ?_); rintro e w' ⟨rfl, ⟨nd, rfl⟩⟩; (try first | exact ⟨rfl, _, World.drewN_drewN _ _ _⟩ | exact ⟨rfl, _, Eq.trans (World.drewN_drewN _ _ _) (congrArg (World.drewN _) (Nat.add_assoc _ _ _))⟩)) | (go_at_call 114; (with_reducible refine (spec_loBoth.calls k2 a0 ((wrap64 (97 + x4_1)) % 256) ((wrap64 (97 + x5_2)) % 256) t194 _ A8.out).mono ?_); rintro e w' ⟨rfl, ⟨nd, rfl⟩⟩; (try first | exact ⟨rfl, _, World.drewN_drewN _ _ _⟩ | exact ⟨rfl, _, Eq.trans (World.drewN_drewN _ _ _) (congrArg (World.drewN _) (Nat.add_assoc _ _ _))⟩))))
                    go_roundg k2
                    case measure => have := HK1.out; have := HK2.out; omega
                    case rel => exact ⟨(wrap64 (x5_2 + 1)), (by first | rfl | (simp; done) | (simp [*]; done)), H', ⟨by have := HK1.out; have := HK2.out; omega⟩, by repeat (first | exact Drawn0.refl _ | apply Drawn0.step)⟩
                  · rw [if_neg c9] at H
                    have c9b0 : ((Int.tmod t194 2) == 0) = false := beq_eq_false_iff_ne.mpr c9
                    have c9b1 : ((Int.tmod t194 2) != 0) = true := bne_iff_ne.mpr c9
                    obtain rfl := Option.some.inj H
                    go_wp2_with (first | (go_at_call 96; (with_reducible refine (spec_loLaced.calls k2 a0 ((wrap64 (97 + x4_1)) % 256) ((wrap64 (97 + x5_2)) % 256) false _ A6.out).mono ?_); rintro e w' ⟨rfl, ⟨nd, rfl⟩⟩; (try first | exact ⟨rfl, _, World.drewN_drewN _ _ _⟩ | exact ⟨rfl, _, Eq.trans (World.drewN_drewN _ _ _) (congrArg (World.drewN _) (Nat.add_assoc _ _ _))⟩)) | (go_at_call 114; (with_reducible refine (spec_loBoth.calls k2 a0 ((wrap64 (97 + x4_1)) % 256) ((wrap64 (97 + x5_2)) % 256) t194 _ A8.out).mono ?_); rintro e w' ⟨rfl, ⟨nd, rfl⟩⟩; (try first | exact ⟨rfl, _, World.drewN_drewN _ _ _⟩ | exact ⟨rfl, _, Eq.trans (World.drewN_drewN _ _ _) (congrArg (World.drewN _) (Nat.add_assoc _ _ _))⟩)))
                    repeat (go_quiet (first | (go_at_call 96; (with_reducible refine (spec_loLaced.calls k2 a0 ((wrap64 (97 + x4_1)) % 256) ((wrap64 (97 + x5_2)) % 256) false _ A6.out).mono ?_); rintro e w' ⟨rfl, ⟨nd, rfl⟩⟩; (try first | exact ⟨rfl, _, World.drewN_drewN _ _ _⟩ | exact ⟨rfl, _, Eq.trans (World.drewN_drewN _ _ _) (congrArg (World.drewN _) (Nat.add_assoc _ _ _))⟩)) | (go_at_call 114; (with_reducible refine (spec_loBoth.calls k2 a0 ((wrap64 (97 + x4_1)) % 256) ((wrap64 (97 + x5_2)) % 256) t194 _ A8.out).mono ?_); rintro e w' ⟨rfl, ⟨nd, rfl⟩⟩; (try first | exact ⟨rfl, _, World.drewN_drewN _ _ _⟩ | exact ⟨rfl, _, Eq.trans (World.drewN_drewN _ _ _) (congrArg (World.drewN _) (Nat.add_assoc _ _ _))⟩))); try go_wp2_with (first | (go_at_call 96; (with_reducible refine (spec_loLaced.calls k2 a0 ((wrap64 (97 + x4_1)) % 256) ((wrap64 (97 + x5_2)) % 256) false _ A6.out).mono ?_); rintro e w' ⟨rfl, ⟨nd, rfl⟩⟩; (try first | exact ⟨rfl, _, World.drewN_drewN _ _ _⟩ | exact ⟨rfl, _, Eq.trans (World.drewN_drewN _ _ _) (congrArg (World.drewN _) (Nat.add_assoc _ _ _))⟩)) | (go_at_call 114; (with_reducible refine (spec_loBoth.calls k2 a0 ((wrap64 (97 + x4_1)) % 256) ((wrap64 (97 + x5_2)) % 256) t194 _ A8.out).mono ?_); rintro e w' ⟨rfl, ⟨nd, rfl⟩⟩; (try first | exact ⟨rfl, _, World.drewN_drewN _ _ _⟩ | exact ⟨rfl, _, Eq.trans (World.drewN_drewN _ _ _) (congrArg (World.drewN _) (Nat.add_assoc _ _ _))⟩))))
                    go_ret
                    exact ⟨by first | rfl | (simp; done) | (simp [*]; done), by repeat (first | exact Drawn0.refl _ | apply Drawn0.step)⟩
              · rw [if_neg c5] at H
                have c5b0 : decide (x5_2 < x4_1) = false := decide_eq_false c5
                clear c5
                have H' := Aside0.mk H
                clear H
                go_wp2
                repeat (go_quiet (fail); try go_wp2)
                go_roundg k2
                case measure => have := HK1.out; have := HK2.out; omega
                case rel => exact ⟨(wrap64 (x4_1 + 1)), (by first | rfl | (simp; done) | (simp [*]; done)), H', ⟨by have := HK1.out; have := HK2.out; omega⟩, by repeat (first | exact Drawn0.refl _ | apply Drawn0.step)⟩
        · rw [if_neg c4] at H
          have c4b0 : decide (x4_1 < (wrap64 ((a0.size : Int) / 2))) = false := decide_eq_false c4
          clear c4
          have H' := Aside0.mk H
          clear H
          go_wp2
          repeat (go_quiet (fail); try go_wp2)
          go_loopg [8] k1 (fun kq v8 w' => ∃ (x8_2 : Int), v8 = .int .i64 x8_2 ∧ Aside0 (spec_loDrawn.l2 kq a0 (wrap64 ((a0.size : Int) / 2)) x8_2 = some r) ∧ Aside0 (kq ≤ k1) ∧ Drawn0 w w')
          case atStart => exact ⟨(0), (by first | rfl | (simp; done) | (simp [*]; done)), H', ⟨Nat.le_refl _⟩, by repeat (first | exact Drawn0.refl _ | apply Drawn0.step)⟩
          case round =>
            clear H'
            try clear p2
            try clear c3
            try clear c4
            try clear c4b0
            try clear c5
            try clear c5b0
            try clear c6
            try clear p6
            try clear c7
            try clear c9
            try clear c9b0
            try clear c9b1
            try clear p2
            obtain ⟨x8_2, rfl, HA, HK2, ⟨m2, rfl⟩⟩ := hrel
            cases gk with
            | zero => exact absurd HA.out (by simp [spec_loDrawn.l2])
            | succ k2 =>
              have H := HA.out
              clear HA
              simp only [spec_loDrawn.l2] at H
              obtain ⟨ji10, hji10⟩ : ∃ j_ : Int, (wrap64 ((a0.size : Int) / 2)) = j_ := ⟨_, rfl⟩
              replace H : (if 0 ≤ (ji10) then (if x8_2 < (shl .i64 1 (ji10)) then (spec_loDrawn.l3 k2 a0 (ji10) x8_2 true 0) else (some false)) else (none)) = some r := by first | (rw [hji10] at H; exact H) | (simp only [hji10] at H ⊢; exact H)
              (try rw [hji10] at c4b0)
              have hji10w : (IntKind.i64.wrap ((a0.size : Int) / 2)) = ji10 := (i64_w _).trans hji10
              by_cases c11 : 0 ≤ (ji10)
              · rw [if_pos c11] at H
                have c11b0 := eq_true c11
                have c11b1 : decide (0 ≤ (ji10)) = true := decide_eq_true c11
                clear c11
                obtain ⟨ji12, hji12⟩ : ∃ j_ : Int, (shl .i64 1 (ji10)) = j_ := ⟨_, rfl⟩
                replace H : (if x8_2 < (ji12) then (spec_loDrawn.l3 k2 a0 (ji10) x8_2 true 0) else (some false)) = some r := by first | (rw [hji12] at H; exact H) | (simp only [hji12] at H ⊢; exact H)
                have hji12_ : (IntKind.i64.wrap (1 * 2 ^ min (ji10).toNat 64)) = ji12 := hji12
                have hji12z : (ji10) ≤ 64 → (IntKind.i64.wrap (1 * 2 ^ (ji10).toNat)) = ji12 := shl_small hji12
                have hji12u : (IntKind.i64.wrap (2 ^ min (ji10).toNat 64)) = ji12 := by have h_ := hji12_; rw [Int.one_mul] at h_; exact h_
                have hji12v : (ji10) ≤ 64 → (IntKind.i64.wrap (2 ^ (ji10).toNat)) = ji12 := fun hle_ => by have h_ := hji12z hle_; rw [Int.one_mul] at h_; exact h_
                have hji12y : (wrap64 (1 * 2 ^ min (ji10).toNat 64)) = ji12 := (i64_w _).symm.trans hji12_
                have hji12x : (ji10) ≤ 64 → (wrap64 (1 * 2 ^ (ji10).toNat)) = ji12 := fun h_ => (i64_w _).symm.trans (hji12z h_)
                by_cases c13 : x8_2 < (ji12)
                · rw [if_pos c13] at H
                  have c13b0 : decide (x8_2 < (ji12)) = true := decide_eq_true c13
                  clear c13
                  have H' := Aside0.mk H
                  clear H
                  go_wp2
                  repeat (go_quiet (fail); try go_wp2)
                  go_loopg [9, 10] k2 (fun kq v9 v10 w' => ∃ (x9_3 : Bool) (x10_3 : Int), v9 = .bool x9_3 ∧ v10 = .int .i64 x10_3 ∧ Aside0 (spec_loDrawn.l3 kq a0 (ji10) x8_2 x9_3 x10_3 = some r) ∧ Aside0 (kq ≤ k2) ∧ Drawn0 w w')
                  case atStart => exact ⟨(true), (0), (by first | rfl | (simp; done) | (simp [*]; done)), (by first | rfl | (simp; done) | (simp [*]; done)), H', ⟨Nat.le_refl _⟩, by repeat (first | exact Drawn0.refl _ | apply Drawn0.step)⟩
                  case round =>
                    clear H'
                    try clear c1
                    try clear p2
                    try clear c3
                    try clear c4
                    try clear c4b0
                    try clear c5
                    try clear c5b0
                    try clear c6
                    try clear p6
                    try clear c7
                    try clear c9
                    try clear c9b0
                    try clear c9b1
                    try clear c11
                    try clear c11b0
                    try clear c11b1
                    try clear c13
                    try clear c13b0
                    try clear p2
                    try clear p6
                    obtain ⟨x9_3, x10_3, rfl, rfl, HA, HK3, ⟨m3, rfl⟩⟩ := hrel
                    cases gk with
                    | zero => exact absurd HA.out (by simp [spec_loDrawn.l3])
                    | succ k3 =>
                      have H := HA.out
                      clear HA
                      simp only [spec_loDrawn.l3] at H
                      have HC14 := Aside0.mk H
                      clear H
                      go_upto_region 18 with (fail)
                      repeat (go_quiet (fail); go_upto_region 18 with (fail))
                      go_cut [60] (fun v60 wc => ∃ (kq : Nat) (x60_13 : Bool), v60 = .bool x60_13 ∧ Aside0 (spec_loDrawn.j4 kq a0 (ji10) x8_2 x9_3 x10_3 x60_13 = some r) ∧ Aside0 (kq ≤ k3) ∧ Drawn0 w wc)
                      case first =>
                        have H := HC14.out
                        clear HC14
                        by_cases c15 : x10_3 < (ji10)
                        · rw [if_pos c15] at H
                          have c15b0 : decide (x10_3 < (ji10)) = true := decide_eq_true c15
                          clear c15
                          (first | rw [c15b0] | (simp only [i64_w, i32_w]; rw [c15b0]) | skip)
                          have H' := Aside0.mk H
                          clear H
                          go_wp2
                          repeat (go_quiet (fail); try go_wp2)
                          go_meet
                          case rel => exact ⟨_, (x9_3), (by first | rfl | (simp; done) | (simp [*]; done)), (by first | exact H' | (rw [hji10]; exact H') | (rw [hji12]; exact H')), ⟨by have := HK1.out; have := HK2.out; have := HK3.out; first | omega | exact Nat.le_refl _⟩, by repeat (first | exact Drawn0.refl _ | apply Drawn0.step)⟩
                        · rw [if_neg c15] at H
                          have c15b0 : decide (x10_3 < (ji10)) = false := decide_eq_false c15
                          clear c15
                          (first | rw [c15b0] | (simp only [i64_w, i32_w]; rw [c15b0]) | skip)
                          have H' := Aside0.mk H
                          clear H
                          go_wp2
                          repeat (go_quiet (fail); try go_wp2)
                          go_meet
                          case rel => exact ⟨_, (false), (by first | rfl | (simp; done) | (simp [*]; done)), (by first | exact H' | (rw [hji10]; exact H') | (rw [hji12]; exact H')), ⟨by have := HK1.out; have := HK2.out; have := HK3.out; first | omega | exact Nat.le_refl _⟩, by repeat (first | exact Drawn0.refl _ | apply Drawn0.step)⟩
                      case rest =>
                        clear HC14
                        try clear c1
                        try clear p2
                        try clear c3
                        try clear c4
                        try clear c4b0
                        try clear c5
                        try clear c5b0
                        try clear c6
                        try clear p6
                        try clear c7
                        try clear c9
                        try clear c9b0
                        try clear c9b1
                        try clear c11
                        try clear c11b0
                        try clear c11b1
                        try clear c13
                        try clear c13b0
                        try clear c15
                        try clear c15b0
                        try clear p2
                        try clear p6
                        obtain ⟨kq, x60_13, rfl, HA, HJ13, ⟨mc13, rfl⟩⟩ := hcut
                        cases kq with
                        | zero => exact absurd HA.out (by simp [spec_loDrawn.j4])
                        | succ kj13 =>
                          have H := HA.out
                          clear HA
                          simp only [spec_loDrawn.j4] at H
                          by_cases c16 : x60_13 = true
                          · subst c16
                            have H1 : (spec_loDrawn.l4 kj13 a0 (ji10) x8_2 x9_3 x10_3 0) = some r := by rw [if_pos rfl] at H; exact H
                            clear H
                            have H := H1
                            clear H1
                            have H' := Aside0.mk H
                            clear H
                            go_wp2
                            repeat (go_quiet (fail); try go_wp2)
                            go_loopg [9, 11] kj13 (fun kq v9 v11 w' => ∃ (x9_5 : Bool) (x11_5 : Int), v9 = .bool x9_5 ∧ v11 = .int .i64 x11_5 ∧ Aside0 (spec_loDrawn.l4 kq a0 (ji10) x8_2 x9_5 x10_3 x11_5 = some r) ∧ Aside0 (kq ≤ kj13) ∧ Drawn0 w w')
                            case atStart => exact ⟨(x9_3), (0), (by first | rfl | (simp; done) | (simp [*]; done)), (by first | rfl | (simp; done) | (simp [*]; done)), H', ⟨Nat.le_refl _⟩, by repeat (first | exact Drawn0.refl _ | apply Drawn0.step)⟩
                            case round =>
                              clear H'
                              try clear c1
                              try clear p2
                              try clear c3
                              try clear c4
                              try clear c4b0
                              try clear c5
                              try clear c5b0
                              try clear c6
                              try clear p6
                              try clear c7
                              try clear c9
                              try clear c9b0
                              try clear c9b1
                              try clear c11
                              try clear c11b0
                              try clear c11b1
                              try clear c13
                              try clear c13b0
                              try clear c15
                              try clear c15b0
                              try clear c16
                              try clear p2
                              try clear p6
                              obtain ⟨x9_5, x11_5, rfl, rfl, HA, HK5, ⟨m5, rfl⟩⟩ := hrel
                              cases gk with
                              | zero => exact absurd HA.out (by simp [spec_loDrawn.l4])
                              | succ k5 =>
                                have H := HA.out
                                clear HA
                                simp only [spec_loDrawn.l4] at H
                                by_cases c17 : x11_5 < x10_3
                                · rw [if_pos c17] at H
                                  have c17b0 : decide (x11_5 < x10_3) = true := decide_eq_true c17
                                  clear c17
                                  replace H := Option.bind_eq_some_iff.mp H
                                  obtain ⟨t195, A180, H⟩ := H
                                  replace H : (if t195 = true then (if 0 ≤ x10_3 then (if 0 ≤ x11_5 then ((spec_loBoth.f k5 a0 ((wrap64 (97 + x10_3)) % 256) ((wrap64 (97 + x11_5)) % 256)).bind fun t196 => (if (((Go.bits .and .i64 (shr .i64 x8_2 x10_3) 1) != (Go.bits .and .i64 (shr .i64 x8_2 x11_5) 1)) != ((Int.tmod t196 2) == 0)) = true then (spec_loDrawn.l4 k5 a0 (ji10) x8_2 false x10_3 (wrap64 (x11_5 + 1))) else (spec_loDrawn.l4 k5 a0 (ji10) x8_2 x9_5 x10_3 (wrap64 (x11_5 + 1))))) else (none)) else (none)) else (spec_loDrawn.l4 k5 a0 (ji10) x8_2 x9_5 x10_3 (wrap64 (x11_5 + 1)))) = some r := H
                                  have A18 := Aside0.mk A180
                                  clear A180
                                  by_cases c19 : t195 = true
                                  · subst c19
                                    have H1 : (if 0 ≤ x10_3 then (if 0 ≤ x11_5 then ((spec_loBoth.f k5 a0 ((wrap64 (97 + x10_3)) % 256) ((wrap64 (97 + x11_5)) % 256)).bind fun t196 => (if (((Go.bits .and .i64 (shr .i64 x8_2 x10_3) 1) != (Go.bits .and .i64 (shr .i64 x8_2 x11_5) 1)) != ((Int.tmod t196 2) == 0)) = true then (spec_loDrawn.l4 k5 a0 (ji10) x8_2 false x10_3 (wrap64 (x11_5 + 1))) else (spec_loDrawn.l4 k5 a0 (ji10) x8_2 x9_5 x10_3 (wrap64 (x11_5 + 1))))) else (none)) else (none)) = some r := by rw [if_pos rfl] at H; exact H
                                    clear H
                                    have H := H1
                                    clear H1
                                    by_cases c20 : 0 ≤ x10_3
                                    · rw [if_pos c20] at H
                                      have c20b0 := eq_true c20
                                      have c20b1 : decide (0 ≤ x10_3) = true := decide_eq_true c20
                                      clear c20
                                      obtain ⟨ji21, hji21⟩ : ∃ j_ : Int, (shr .i64 x8_2 x10_3) = j_ := ⟨_, rfl⟩
                                      replace H : (if 0 ≤ x11_5 then ((spec_loBoth.f k5 a0 ((wrap64 (97 + x10_3)) % 256) ((wrap64 (97 + x11_5)) % 256)).bind fun t196 => (if (((Go.bits .and .i64 (ji21) 1) != (Go.bits .and .i64 (shr .i64 x8_2 x11_5) 1)) != ((Int.tmod t196 2) == 0)) = true then (spec_loDrawn.l4 k5 a0 (ji10) x8_2 false x10_3 (wrap64 (x11_5 + 1))) else (spec_loDrawn.l4 k5 a0 (ji10) x8_2 x9_5 x10_3 (wrap64 (x11_5 + 1))))) else (none)) = some r := by first | (rw [hji21] at H; exact H) | (simp only [hji21] at H ⊢; exact H)
                                      (try rw [hji21] at A18)
                                      have hji21_ : (x8_2 / 2 ^ min x10_3.toNat 64) = ji21 := hji21
                                      have hji21z : x10_3 ≤ 64 → (x8_2 / 2 ^ x10_3.toNat) = ji21 := shr_small hji21
                                      by_cases c22 : 0 ≤ x11_5
                                      · rw [if_pos c22] at H
                                        have c22b0 := eq_true c22
                                        have c22b1 : decide (0 ≤ x11_5) = true := decide_eq_true c22
                                        clear c22
                                        obtain ⟨ji23, hji23⟩ : ∃ j_ : Int, (shr .i64 x8_2 x11_5) = j_ := ⟨_, rfl⟩
                                        replace H : ((spec_loBoth.f k5 a0 ((wrap64 (97 + x10_3)) % 256) ((wrap64 (97 + x11_5)) % 256)).bind fun t196 => (if (((Go.bits .and .i64 (ji21) 1) != (Go.bits .and .i64 (ji23) 1)) != ((Int.tmod t196 2) == 0)) = true then (spec_loDrawn.l4 k5 a0 (ji10) x8_2 false x10_3 (wrap64 (x11_5 + 1))) else (spec_loDrawn.l4 k5 a0 (ji10) x8_2 x9_5 x10_3 (wrap64 (x11_5 + 1))))) = some r := by first | (rw [hji23] at H; exact H) | (simp only [hji23] at H ⊢; exact H)
                                        (try rw [hji23] at A18)
                                        have hji23_ : (x8_2 / 2 ^ min x11_5.toNat 64) = ji23 := hji23
                                        have hji23z : x11_5 ≤ 64 → (x8_2 / 2 ^ x11_5.toNat) = ji23 := shr_small hji23
                                        replace H := Option.bind_eq_some_iff.mp H
                                        obtain ⟨t196, A240, H⟩ := H
                                        replace H : (if (((Go.bits .and .i64 (ji21) 1) != (Go.bits .and .i64 (ji23) 1)) != ((Int.tmod t196 2) == 0)) = true then (spec_loDrawn.l4 k5 a0 (ji10) x8_2 false x10_3 (wrap64 (x11_5 + 1))) else (spec_loDrawn.l4 k5 a0 (ji10) x8_2 x9_5 x10_3 (wrap64 (x11_5 + 1)))) = some r := H
                                        have A24 := Aside0.mk A240
                                        clear A240
                                        by_cases c25 : (((Go.bits .and .i64 (ji21) 1) != (Go.bits .and .i64 (ji23) 1)) != ((Int.tmod t196 2) == 0)) = true
                                        · rw [if_pos c25] at H
                                          have c25b0 : (((Go.bits .and .i64 (ji21) 1) != (Go.bits .and .i64 (ji23) 1)) != ((Int.tmod t196 2) == 0)) = true := c25
                                          (try (have c25b1 : decide (((Go.bits .and .i64 (ji21) 1) != (Go.bits .and .i64 (ji23) 1)) = ((Int.tmod t196 2) == 0)) = false := by simpa using c25))
                                          (try (have c25b2 : (((Go.bits .and .i64 (ji21) 1) != (Go.bits .and .i64 (ji23) 1)) == ((Int.tmod t196 2) == 0)) = false := by simpa using c25))
                                          (try (have c25b3 : ¬ (((Go.bits .and .i64 (ji21) 1) != (Go.bits .and .i64 (ji23) 1)) = ((Int.tmod t196 2) == 0)) := by simpa using c25))
                                          clear c25
                                          have H' := Aside0.mk H
                                          clear H
                                          go_wp2_with (first | (go_at_call 96; (with_reducible refine (spec_loLaced.calls k5 a0 ((wrap64 (97 + x10_3)) % 256) ((wrap64 (97 + x11_5)) % 256) true _ A18.out).mono ?_); rintro e w' ⟨rfl, ⟨nd, rfl⟩⟩; (try first | exact ⟨rfl, _, World.drewN_drewN _ _ _⟩ | exact ⟨rfl, _, Eq.trans (World.drewN_drewN _ _ _) (congrArg (World.drewN _) (Nat.add_assoc _ _ _))⟩)) | (go_at_call 114; (with_reducible refine (spec_loBoth.calls k5 a0 ((wrap64 (97 + x10_3)) % 256) ((wrap64 (97 + x11_5)) % 256) t196 _ A24.out).mono ?_); rintro e w' ⟨rfl, ⟨nd, rfl⟩⟩; (try first | exact ⟨rfl, _, World.drewN_drewN _ _ _⟩ | exact ⟨rfl, _, Eq.trans (World.drewN_drewN _ _ _) (congrArg (World.drewN _) (Nat.add_assoc _ _ _))⟩)))
                                          repeat (go_quiet (first | (go_at_call 96; (with_reducible refine (spec_loLaced.calls k5 a0 ((wrap64 (97 + x10_3)) % 256) ((wrap64 (97 + x11_5)) % 256) true _ A18.out).mono ?_); rintro e w' ⟨rfl, ⟨nd, rfl⟩⟩; (try first | exact ⟨rfl, _, World.drewN_drewN _ _ _⟩ | exact ⟨rfl, _, Eq.trans (World.drewN_drewN _ _ _) (congrArg (World.drewN _) (Nat.add_assoc _ _ _))⟩)) | (go_at_call 114; (with_reducible refine (spec_loBoth.calls k5 a0 ((wrap64 (97 + x10_3)) % 256) ((wrap64 (97 + x11_5)) % 256) t196 _ A24.out).mono ?_); rintro e w' ⟨rfl, ⟨nd, rfl⟩⟩; (try first | exact ⟨rfl, _, World.drewN_drewN _ _ _⟩ | exact ⟨rfl, _, Eq.trans (World.drewN_drewN _ _ _) (congrArg (World.drewN _) (Nat.add_assoc _ _ _))⟩))); try go_wp2_with (first | (go_at_call 96; (with_reducible refine (spec_loLaced.calls k5 a0 ((wrap64 (97 + x10_3)) % 256) ((wrap64 (97 + x11_5)) % 256) true _ A18.out).mono ?_); rintro e w' ⟨rfl, ⟨nd, rfl⟩⟩; (try first | exact ⟨rfl, _, World.drewN_drewN _ _ _⟩ | exact ⟨rfl, _, Eq.trans (World.drewN_drewN _ _ _) (congrArg (World.drewN _) (Nat.add_assoc _ _ _))⟩)) | (go_at_call 114; (with_reducible refine (spec_loBoth.calls k5 a0 ((wrap64 (97 + x10_3)) % 256) ((wrap64 (97 + x11_5)) % 256) t196 _ A24.out).mono ?_); rintro e w' ⟨rfl, ⟨nd, rfl⟩⟩; (try first | exact ⟨rfl, _, World.drewN_drewN _ _ _⟩ | exact ⟨rfl, _, Eq.trans (World.drewN_drewN _ _ _) (congrArg (World.drewN _) (Nat.add_assoc _ _ _))⟩))))
                                          go_roundg k5
                                          case measure => have := HK1.out; have := HK2.out; have := HK3.out; have := HJ13.out; have := HK5.out; omega
                                          case rel => exact ⟨(false), (wrap64 (x11_5 + 1)), (by first | rfl | (simp; done) | (simp [*]; done)), (by first | rfl | (simp; done) | (simp [*]; done)), (by first | exact H' | (rw [hji10]; exact H') | (rw [hji12]; exact H') | (rw [hji21]; exact H') | (rw [hji23]; exact H')), ⟨by have := HK1.out; have := HK2.out; have := HK3.out; have := HJ13.out; have := HK5.out; omega⟩, by repeat (first | exact Drawn0.refl _ | apply Drawn0.step)⟩
                                        · rw [if_neg c25] at H
                                          have c25b0 : (((Go.bits .and .i64 (ji21) 1) != (Go.bits .and .i64 (ji23) 1)) != ((Int.tmod t196 2) == 0)) = false := by simpa using c25
                                          (try (have c25b1 : decide (((Go.bits .and .i64 (ji21) 1) != (Go.bits .and .i64 (ji23) 1)) = ((Int.tmod t196 2) == 0)) = true := by simpa using c25))
                                          (try (have c25b2 : (((Go.bits .and .i64 (ji21) 1) != (Go.bits .and .i64 (ji23) 1)) == ((Int.tmod t196 2) == 0)) = true := by simpa using c25))
                                          clear c25
                                          have H' := Aside0.mk H
                                          clear H
                                          go_wp2_with (first | (go_at_call 96; (with_reducible refine (spec_loLaced.calls k5 a0 ((wrap64 (97 + x10_3)) % 256) ((wrap64 (97 + x11_5)) % 256) true _ A18.out).mono ?_); rintro e w' ⟨rfl, ⟨nd, rfl⟩⟩; (try first | exact ⟨rfl, _, World.drewN_drewN _ _ _⟩ | exact ⟨rfl, _, Eq.trans (World.drewN_drewN _ _ _) (congrArg (World.drewN _) (Nat.add_assoc _ _ _))⟩)) | (go_at_call 114; (with_reducible refine (spec_loBoth.calls k5 a0 ((wrap64 (97 + x10_3)) % 256) ((wrap64 (97 + x11_5)) % 256) t196 _ A24.out).mono ?_); rintro e w' ⟨rfl, ⟨nd, rfl⟩⟩; (try first | exact ⟨rfl, _, World.drewN_drewN _ _ _⟩ | exact ⟨rfl, _, Eq.trans (World.drewN_drewN _ _ _) (congrArg (World.drewN _) (Nat.add_assoc _ _ _))⟩)))
                                          repeat (go_quiet (first | (go_at_call 96; (with_reducible refine (spec_loLaced.calls k5 a0 ((wrap64 (97 + x10_3)) % 256) ((wrap64 (97 + x11_5)) % 256) true _ A18.out).mono ?_); rintro e w' ⟨rfl, ⟨nd, rfl⟩⟩; (try first | exact ⟨rfl, _, World.drewN_drewN _ _ _⟩ | exact ⟨rfl, _, Eq.trans (World.drewN_drewN _ _ _) (congrArg (World.drewN _) (Nat.add_assoc _ _ _))⟩)) | (go_at_call 114; (with_reducible refine (spec_loBoth.calls k5 a0 ((wrap64 (97 + x10_3)) % 256) ((wrap64 (97 + x11_5)) % 256) t196 _ A24.out).mono ?_); rintro e w' ⟨rfl, ⟨nd, rfl⟩⟩; (try first | exact ⟨rfl, _, World.drewN_drewN _ _ _⟩ | exact ⟨rfl, _, Eq.trans (World.drewN_drewN _ _ _) (congrArg (World.drewN _) (Nat.add_assoc _ _ _))⟩))); try go_wp2_with (first | (go_at_call 96; (with_reducible refine (spec_loLaced.calls k5 a0 ((wrap64 (97 + x10_3)) % 256) ((wrap64 (97 + x11_5)) % 256) true _ A18.out).mono ?_); rintro e w' ⟨rfl, ⟨nd, rfl⟩⟩; (try first | exact ⟨rfl, _, World.drewN_drewN _ _ _⟩ | exact ⟨rfl, _, Eq.trans (World.drewN_drewN _ _ _) (congrArg (World.drewN _) (Nat.add_assoc _ _ _))⟩)) | (go_at_call 114; (with_reducible refine (spec_loBoth.calls k5 a0 ((wrap64 (97 + x10_3)) % 256) ((wrap64 (97 + x11_5)) % 256) t196 _ A24.out).mono ?_); rintro e w' ⟨rfl, ⟨nd, rfl⟩⟩; (try first | exact ⟨rfl, _, World.drewN_drewN _ _ _⟩ | exact ⟨rfl, _, Eq.trans (World.drewN_drewN _ _ _) (congrArg (World.drewN _) (Nat.add_assoc _ _ _))⟩))))
                                          go_roundg k5
                                          case measure => have := HK1.out; have := HK2.out; have := HK3.out; have := HJ13.out; have := HK5.out; omega
                                          case rel => exact ⟨(x9_5), (wrap64 (x11_5 + 1)), (by first | rfl | (simp; done) | (simp [*]; done)), (by first | rfl | (simp; done) | (simp [*]; done)), (by first | exact H' | (rw [hji10]; exact H') | (rw [hji12]; exact H') | (rw [hji21]; exact H') | (rw [hji23]; exact H')), ⟨by have := HK1.out; have := HK2.out; have := HK3.out; have := HJ13.out; have := HK5.out; omega⟩, by repeat (first | exact Drawn0.refl _ | apply Drawn0.step)⟩
                                      · rw [if_neg c22] at H
                                        exact absurd H (by simp)
                                    · rw [if_neg c20] at H
                                      exact absurd H (by simp)
                                  · replace c19 := Bool.eq_false_iff.mpr c19
                                    subst c19
                                    have H1 : (spec_loDrawn.l4 k5 a0 (ji10) x8_2 x9_5 x10_3 (wrap64 (x11_5 + 1))) = some r := by rw [if_neg (show ¬ (false = true) by decide)] at H; exact H
                                    clear H
                                    have H := H1
                                    clear H1
                                    have H' := Aside0.mk H
                                    clear H
                                    go_wp2_with (first | (go_at_call 96; (with_reducible refine (spec_loLaced.calls k5 a0 ((wrap64 (97 + x10_3)) % 256) ((wrap64 (97 + x11_5)) % 256) false _ A18.out).mono ?_); rintro e w' ⟨rfl, ⟨nd, rfl⟩⟩; (try first | exact ⟨rfl, _, World.drewN_drewN _ _ _⟩ | exact ⟨rfl, _, Eq.trans (World.drewN_drewN _ _ _) (congrArg (World.drewN _) (Nat.add_assoc _ _ _))⟩)))
                                    repeat (go_quiet (first | (go_at_call 96; (with_reducible refine (spec_loLaced.calls k5 a0 ((wrap64 (97 + x10_3)) % 256) ((wrap64 (97 + x11_5)) % 256) false _ A18.out).mono ?_); rintro e w' ⟨rfl, ⟨nd, rfl⟩⟩; (try first | exact ⟨rfl, _, World.drewN_drewN _ _ _⟩ | exact ⟨rfl, _, Eq.trans (World.drewN_drewN _ _ _) (congrArg (World.drewN _) (Nat.add_assoc _ _ _))⟩))); try go_wp2_with (first | (go_at_call 96; (with_reducible refine (spec_loLaced.calls k5 a0 ((wrap64 (97 + x10_3)) % 256) ((wrap64 (97 + x11_5)) % 256) false _ A18.out).mono ?_); rintro e w' ⟨rfl, ⟨nd, rfl⟩⟩; (try first | exact ⟨rfl, _, World.drewN_drewN _ _ _⟩ | exact ⟨rfl, _, Eq.trans (World.drewN_drewN _ _ _) (congrArg (World.drewN _) (Nat.add_assoc _ _ _))⟩))))
                                    go_roundg k5
                                    case measure => have := HK1.out; have := HK2.out; have := HK3.out; have := HJ13.out; have := HK5.out; omega
                                    case rel => exact ⟨(x9_5), (wrap64 (x11_5 + 1)), (by first | rfl | (simp; done) | (simp [*]; done)), (by first | rfl | (simp; done) | (simp [*]; done)), (by first | exact H' | (rw [hji10]; exact H') | (rw [hji12]; exact H') | (rw [hji21]; exact H') | (rw [hji23]; exact H')), ⟨by have := HK1.out; have := HK2.out; have := HK3.out; have := HJ13.out; have := HK5.out; omega⟩, by repeat (first | exact Drawn0.refl _ | apply Drawn0.step)⟩
                                · rw [if_neg c17] at H
                                  have c17b0 : decide (x11_5 < x10_3) = false := decide_eq_false c17
                                  clear c17
                                  have H' := Aside0.mk H
                                  clear H
                                  go_wp2
                                  repeat (go_quiet (fail); try go_wp2)
                                  go_roundg k5
                                  case measure => have := HK1.out; have := HK2.out; have := HK3.out; have := HJ13.out; have := HK5.out; omega
                                  case rel => exact ⟨(x9_5), (wrap64 (x10_3 + 1)), (by first | rfl | (simp; done) | (simp [*]; done)), (by first | rfl | (simp; done) | (simp [*]; done)), (by first | exact H' | (rw [hji10]; exact H') | (rw [hji12]; exact H') | (rw [hji21]; exact H') | (rw [hji23]; exact H')), ⟨by have := HK1.out; have := HK2.out; have := HK3.out; have := HJ13.out; have := HK5.out; omega⟩, by repeat (first | exact Drawn0.refl _ | apply Drawn0.step)⟩
                          · replace c16 := Bool.eq_false_iff.mpr c16
                            subst c16
                            have H1 : (if x9_3 = true then (some true) else (spec_loDrawn.l2 kj13 a0 (ji10) (wrap64 (x8_2 + 1)))) = some r := by rw [if_neg (show ¬ (false = true) by decide)] at H; exact H
                            clear H
                            have H := H1
                            clear H1
                            by_cases c26 : x9_3 = true
                            · subst c26
                              have H1 : (some true) = some r := by rw [if_pos rfl] at H; exact H
                              clear H
                              have H := H1
                              clear H1
                              obtain rfl := Option.some.inj H
                              go_wp2
                              repeat (go_quiet (fail); try go_wp2)
                              go_ret
                              exact ⟨by first | rfl | (simp; done) | (simp only [← hji10, ← hji12] <;> (first | rfl | simp)) | (simp [*]; done), by repeat (first | exact Drawn0.refl _ | apply Drawn0.step)⟩
                            · replace c26 := Bool.eq_false_iff.mpr c26
                              subst c26
                              have H1 : (spec_loDrawn.l2 kj13 a0 (ji10) (wrap64 (x8_2 + 1))) = some r := by rw [if_neg (show ¬ (false = true) by decide)] at H; exact H
                              clear H
                              have H := H1
                              clear H1
                              have H' := Aside0.mk H
                              clear H
                              go_wp2
                              repeat (go_quiet (fail); try go_wp2)
                              go_roundg kj13
                              case measure => have := HK1.out; have := HK2.out; have := HK3.out; have := HJ13.out; omega
                              case rel => exact ⟨(wrap64 (x8_2 + 1)), (by first | rfl | (simp; done) | (simp [*]; done)), (by first | exact H' | (rw [hji10]; exact H') | (rw [hji12]; exact H') | (rw [hji21]; exact H') | (rw [hji23]; exact H')), ⟨by have := HK1.out; have := HK2.out; have := HK3.out; have := HJ13.out; omega⟩, by repeat (first | exact Drawn0.refl _ | apply Drawn0.step)⟩
                · rw [if_neg c13] at H
                  have c13b0 : decide (x8_2 < (ji12)) = false := decide_eq_false c13
                  clear c13
                  obtain rfl := Option.some.inj H
                  go_wp2
                  repeat (go_quiet (fail); try go_wp2)
                  go_ret
                  exact ⟨by first | rfl | (simp; done) | (simp only [← hji10, ← hji12] <;> (first | rfl | simp)) | (simp [*]; done), by repeat (first | exact Drawn0.refl _ | apply Drawn0.step)⟩
              · rw [if_neg c11] at H
                exact absurd H (by simp)
  · replace c3 := Bool.eq_false_iff.mpr c3
    subst c3
    have H1 : (some false) = some r := by rw [if_neg (show ¬ (false = true) by decide)] at H; exact H
    clear H
    have H := H1
    clear H1
    obtain rfl := Option.some.inj H
    go_enter Tryz.func69, Tryz.ntmps69
    go_wp2_with (first | (go_at_call 81; (with_reducible refine (spec_loEven.calls k a0 false _ A2.out).mono ?_); rintro e w' ⟨rfl, ⟨nd, rfl⟩⟩; (try first | exact ⟨rfl, _, World.drewN_drewN _ _ _⟩ | exact ⟨rfl, _, Eq.trans (World.drewN_drewN _ _ _) (congrArg (World.drewN _) (Nat.add_assoc _ _ _))⟩)))
    repeat (go_quiet (first | (go_at_call 81; (with_reducible refine (spec_loEven.calls k a0 false _ A2.out).mono ?_); rintro e w' ⟨rfl, ⟨nd, rfl⟩⟩; (try first | exact ⟨rfl, _, World.drewN_drewN _ _ _⟩ | exact ⟨rfl, _, Eq.trans (World.drewN_drewN _ _ _) (congrArg (World.drewN _) (Nat.add_assoc _ _ _))⟩))); try go_wp2_with (first | (go_at_call 81; (with_reducible refine (spec_loEven.calls k a0 false _ A2.out).mono ?_); rintro e w' ⟨rfl, ⟨nd, rfl⟩⟩; (try first | exact ⟨rfl, _, World.drewN_drewN _ _ _⟩ | exact ⟨rfl, _, Eq.trans (World.drewN_drewN _ _ _) (congrArg (World.drewN _) (Nat.add_assoc _ _ _))⟩))))
    go_ret
    exact ⟨by first | rfl | (simp; done) | (simp [*]; done), by repeat (first | exact Drawn0.refl _ | apply Drawn0.step)⟩

end Go.Proofs.YtcgoaipbfnhjhaaGreatDoor.Pr

-- Written by a program for this claim.
namespace Go.Proofs.YtcgoaipbfnhjhaaGreatDoor.Pr
open Go.RowKit Go.Proofs.YtcgoaipbfnhjhaaGreatDoorW.PrintWords Go.Proofs.YtcgoaipbfnhjhaaGreatDoorW.PrintLast Go.Proofs.YtcgoaipbfnhjhaaGreatDoorW.PrintMore
attribute [local go_sem] max2_int min2_int max_two min_two max_three min_three max_four min_four   -- for this text's walks alone
set_option linter.unusedVariables false
set_option linter.unusedSimpArgs false

/-! ### spec_CountDrawn: function 17 -/
def spec_CountDrawn.l0 : Nat → Int → List ByteArray → Int → Int → Option (Int × Bool)
  | 0, _, _, _, _ => none
  | k + 1, x6, x16, x17, x18 => if x18 < x17 then (if 0 ≤ x18 then (if x18 < (x16.length : Int) then ((spec_loDrawn.f k (rdOf ByteArray.empty x16 x18)).bind fun t202 => (if t202 = true then (spec_CountDrawn.l0 k (wrap64 (x6 + 1)) x16 x17 (wrap64 (x18 + 1))) else (spec_CountDrawn.l0 k x6 x16 x17 (wrap64 (x18 + 1))))) else (none)) else (none)) else (some (x6, true))
def spec_CountDrawn.f (k : Nat) (a0 : Int) : Option (Int × Bool) := (spec_AllLoops.f k a0).bind fun bt197 => (if bt197.2 = true then (spec_CountDrawn.l0 k 0 bt197.1 (bt197.1.length : Int) 0) else (some (0, false)))
theorem spec_CountDrawn.mono_l : ∀ k, (∀ y0 y1 y2 y3, LeO (spec_CountDrawn.l0 k y0 y1 y2 y3) (spec_CountDrawn.l0 (k + 1) y0 y1 y2 y3))
  | 0 => fun _ _ _ _ r h => by simp [spec_CountDrawn.l0] at h
  | k + 1 => by
    have ih0 := spec_CountDrawn.mono_l k
    · intro y0 y1 y2 y3
      unfold spec_CountDrawn.l0
      repeat' first
      | (with_reducible exact ih0 _ _ _ _)
      | (with_reducible exact spec_AllLoops.mono _ _)
      | (with_reducible exact spec_loDrawn.mono _ _)
      | (with_reducible exact LeO.refl _)
      | (with_reducible exact LeO.none _)
      | (with_reducible refine LeO.ite ?_ ?_)
      | (with_reducible refine LeO.bind ?_ (fun _ => ?_))
      | exact ih0 _ _ _ _
      | exact spec_AllLoops.mono _ _
      | exact spec_loDrawn.mono _ _
      | exact LeO.none _
      | refine LeO.ite ?_ ?_
      | refine LeO.bind ?_ (fun _ => ?_)
theorem spec_CountDrawn.mono : ∀ a0 k, LeO (spec_CountDrawn.f k a0) (spec_CountDrawn.f (k + 1) a0) := by
  intro a0 k
  have ih0 := spec_CountDrawn.mono_l k
  unfold spec_CountDrawn.f
  repeat' first
      | (with_reducible exact ih0 _ _ _ _)
      | (with_reducible exact spec_AllLoops.mono _ _)
      | (with_reducible exact spec_loDrawn.mono _ _)
      | (with_reducible exact LeO.refl _)
      | (with_reducible exact LeO.none _)
      | (with_reducible refine LeO.ite ?_ ?_)
      | (with_reducible refine LeO.bind ?_ (fun _ => ?_))
      | exact ih0 _ _ _ _
      | exact spec_AllLoops.mono _ _
      | exact spec_loDrawn.mono _ _
      | exact LeO.none _
      | refine LeO.ite ?_ ?_
      | refine LeO.bind ?_ (fun _ => ?_)
set_option maxHeartbeats 8000000 in
set_option maxRecDepth 100000 in
theorem spec_CountDrawn.calls (k : Nat) (a0 : Int) (r1 : Int) (r2 : Bool) (w : World) (h : spec_CountDrawn.f k a0 = some (r1, r2)) :
    Calls Tryz.prog 17 #[.int .i64 a0] w fun e w' => e = .returned (.tuple #[.int .i64 r1, .bool r2]) ∧ Below w.heap.size w w' := by
  have HB := Aside0.mk (Below.refl w.heap.size w)
  have H : ((spec_AllLoops.f k a0).bind fun bt197 => (if bt197.2 = true then (spec_CountDrawn.l0 k 0 bt197.1 (bt197.1.length : Int) 0) else (some (0, false)))) = some (r1, r2) := h
  clear h
  replace H := Option.bind_eq_some_iff.mp H
  obtain ⟨⟨t197, t198⟩, A20, H⟩ := H
  replace H : (if t198 = true then (spec_CountDrawn.l0 k 0 t197 (t197.length : Int) 0) else (some (0, false))) = some (r1, r2) := H
  have A2 := Aside0.mk A20
  clear A20
  by_cases c3 : t198 = true
  · subst c3
    have H1 : (spec_CountDrawn.l0 k 0 t197 (t197.length : Int) 0) = some (r1, r2) := by rw [if_pos rfl] at H; exact H
    clear H
    have H := H1
    clear H1
    have H' := Aside0.mk H
    clear H
    go_enter Tryz.func17, Tryz.ntmps17
    go_wp2_with (first | ((with_reducible refine gate_callee (f := 15) rfl ?_); refine goesL_ (some 11) rfl rfl Tryz.func15 (by kernel_rfl) rfl #[.int .i64 a0] rfl (by (try simp only [List.map_toArray, List.map_cons, List.map_nil]); first | done | rfl | (simp only [List.length_drop, List.length_take]; rfl)) ?_; (with_reducible refine (spec_AllLoops.calls k a0 t197 true _ A2.out).mono ?_); rintro e w4 ⟨v199, rfl, ho0, hb⟩; refine ⟨_, rfl, ?_⟩; have n0_ := Aside0.mk (Kd.R_lower ho0 (below_size (by repeat (first | (with_reducible first | exact HB.out | apply below_alloc | apply pw_below_drewN | apply below_drew1) | exact HB.out)))); have n1_ := Aside0.mk (below_step (by repeat (first | (with_reducible first | exact HB.out | apply below_alloc | apply pw_below_drewN | apply below_drew1) | exact HB.out)) hb); clear HB; have HO200 := n0_; have HB := n1_; clear n0_ n1_; (try clear hb); (try clear hb2); (try clear hk); (try clear hi); (try clear ho0); obtain ⟨Ao5, co5, eo5⟩ := Kd.R_slice HO200.out; subst eo5))
    go_loopg [6, 18] k (fun kq v6 v18 w' => ∃ (x6_1 : Int) (x18_1 : Int), v6 = .int .i64 x6_1 ∧ v18 = .int .i64 x18_1 ∧ Aside0 (spec_CountDrawn.l0 kq x6_1 t197 (t197.length : Int) x18_1 = some (r1, r2)) ∧ Aside0 (kq ≤ k) ∧ Aside0 (Kd.R Kd.string 9 w' w.heap.size (fun _ => True) (.slice Ao5 t197.length co5) t197) ∧ Aside0 (Below w.heap.size w w'))
    case atStart => exact ⟨(0), (0), (by first | rfl | (simp; done) | (simp [*]; done)), (by first | rfl | (simp; done) | (simp [*]; done)), H', ⟨Nat.le_refl _⟩, ⟨by (with_reducible repeat (first | apply Kd.R_alloc | apply Kd.R_drewN | apply Kd.R_drew)); exact HO200.out⟩, ⟨by repeat (first | (with_reducible first | exact HB.out | apply below_alloc | apply pw_below_drewN | apply below_drew1) | exact HB.out)⟩⟩
    case round =>
      clear H'
      try clear c1
      try clear p2
      try clear c3
      obtain ⟨x6_1, x18_1, rfl, rfl, HA, HK1, HO_16, HB⟩ := hrel
      cases gk with
      | zero => exact absurd HA.out (by simp [spec_CountDrawn.l0])
      | succ k1 =>
        have H := HA.out
        clear HA
        simp only [spec_CountDrawn.l0] at H
        by_cases c6 : x18_1 < (t197.length : Int)
        · rw [if_pos c6] at H
          have c6b0 : decide (x18_1 < (t197.length : Int)) = true := decide_eq_true c6
          clear c6
          by_cases c7 : 0 ≤ x18_1
          · rw [if_pos c7] at H
            have c7b0 : decide (0 ≤ x18_1) = true := decide_eq_true c7
            clear c7
            by_cases c8 : x18_1 < (t197.length : Int)
            · rw [if_pos c8] at H
              have c8b0 : decide (x18_1 < (t197.length : Int)) = true := decide_eq_true c8
              clear c8
              replace H := Option.bind_eq_some_iff.mp H
              obtain ⟨t202, A90, H⟩ := H
              replace H : (if t202 = true then (spec_CountDrawn.l0 k1 (wrap64 (x6_1 + 1)) t197 (t197.length : Int) (wrap64 (x18_1 + 1))) else (spec_CountDrawn.l0 k1 x6_1 t197 (t197.length : Int) (wrap64 (x18_1 + 1)))) = some (r1, r2) := H
              have A9 := Aside0.mk A90
              clear A90
              by_cases c10 : t202 = true
              · subst c10
                have H1 : (spec_CountDrawn.l0 k1 (wrap64 (x6_1 + 1)) t197 (t197.length : Int) (wrap64 (x18_1 + 1))) = some (r1, r2) := by rw [if_pos rfl] at H; exact H
                clear H
                have H := H1
                clear H1
                have H' := Aside0.mk H
                clear H
                have p201 : 0 ≤ (x18_1 : Int) := of_decide_eq_true (by first | (with_reducible assumption) | assumption)
                have q201 : x18_1 < (t197.length : Int) := of_decide_eq_true (by first | (with_reducible assumption) | assumption)
                obtain ⟨ad201, e201, hx201_0⟩ := Kd.at_string (Kd.R_reads' HO_16.out).2.2 x18_1 p201 q201
                cases e201
                replace p201 := eq_true p201
                replace q201 := eq_true q201
                go_wp2_with (first | ((with_reducible refine gate_callee (f := 69) rfl ?_); refine goesL_ (some 23) rfl rfl Tryz.func69 (by kernel_rfl) rfl #[.string (rdOf ByteArray.empty t197 x18_1)] rfl (by (try simp only [List.map_toArray, List.map_cons, List.map_nil]); first | done | rfl | (simp only [List.length_drop, List.length_take]; rfl)) ?_; (with_reducible refine (spec_loDrawn.calls k1 (rdOf ByteArray.empty t197 x18_1) true _ A9.out).mono ?_); rintro e w' ⟨rfl, ⟨nd, rfl⟩⟩; refine ⟨_, rfl, ?_⟩))
                go_roundg k1
                case measure => have := HK1.out; omega
                case rel => exact ⟨(wrap64 (x6_1 + 1)), (wrap64 (x18_1 + 1)), (by first | rfl | (simp; done) | (simp [*]; done)), (by first | rfl | (simp; done) | (simp [*]; done)), H', ⟨by have := HK1.out; omega⟩, ⟨by (with_reducible repeat (first | apply Kd.R_alloc | apply Kd.R_drewN | apply Kd.R_drew)); exact HO_16.out⟩, ⟨by repeat (first | (with_reducible first | exact HB.out | apply below_alloc | apply pw_below_drewN | apply below_drew1) | exact HB.out)⟩⟩
              · replace c10 := Bool.eq_false_iff.mpr c10
                subst c10
                have H1 : (spec_CountDrawn.l0 k1 x6_1 t197 (t197.length : Int) (wrap64 (x18_1 + 1))) = some (r1, r2) := by rw [if_neg (show ¬ (false = true) by decide)] at H; exact H
                clear H
                have H := H1
                clear H1
                have H' := Aside0.mk H
                clear H
                have p201 : 0 ≤ (x18_1 : Int) := of_decide_eq_true (by first | (with_reducible assumption) | assumption)
                have q201 : x18_1 < (t197.length : Int) := of_decide_eq_true (by first | (with_reducible assumption) | assumption)
                obtain ⟨ad201, e201, hx201_0⟩ := Kd.at_string (Kd.R_reads' HO_16.out).2.2 x18_1 p201 q201
                cases e201
                replace p201 := eq_true p201
                replace q201 := eq_true q201
                go_wp2_with (first | ((with_reducible refine gate_callee (f := 69) rfl ?_); refine goesL_ (some 23) rfl rfl Tryz.func69 (by kernel_rfl) rfl #[.string (rdOf ByteArray.empty t197 x18_1)] rfl (by (try simp only [List.map_toArray, List.map_cons, List.map_nil]); first | done | rfl | (simp only [List.length_drop, List.length_take]; rfl)) ?_; (with_reducible refine (spec_loDrawn.calls k1 (rdOf ByteArray.empty t197 x18_1) false _ A9.out).mono ?_); rintro e w' ⟨rfl, ⟨nd, rfl⟩⟩; refine ⟨_, rfl, ?_⟩))
                go_roundg k1
                case measure => have := HK1.out; omega
                case rel => exact ⟨(x6_1), (wrap64 (x18_1 + 1)), (by first | rfl | (simp; done) | (simp [*]; done)), (by first | rfl | (simp; done) | (simp [*]; done)), H', ⟨by have := HK1.out; omega⟩, ⟨by (with_reducible repeat (first | apply Kd.R_alloc | apply Kd.R_drewN | apply Kd.R_drew)); exact HO_16.out⟩, ⟨by repeat (first | (with_reducible first | exact HB.out | apply below_alloc | apply pw_below_drewN | apply below_drew1) | exact HB.out)⟩⟩
            · rw [if_neg c8] at H
              exact absurd H (by simp)
          · rw [if_neg c7] at H
            exact absurd H (by simp)
        · rw [if_neg c6] at H
          have c6b0 : decide (x18_1 < (t197.length : Int)) = false := decide_eq_false c6
          clear c6
          simp only [Option.some.injEq, Prod.mk.injEq] at H
          obtain ⟨rfl, rfl⟩ := H
          go_wp2
          go_ret2
          exact ⟨by first | rfl | (simp [errW_none, errW_some] <;> rfl) | (simp [*, errW_none, errW_some] <;> rfl), by repeat (first | (with_reducible first | exact HB.out | apply below_alloc | apply pw_below_drewN | apply below_drew1) | exact HB.out)⟩
  · replace c3 := Bool.eq_false_iff.mpr c3
    subst c3
    have H1 : (some (0, false)) = some (r1, r2) := by rw [if_neg (show ¬ (false = true) by decide)] at H; exact H
    clear H
    have H := H1
    clear H1
    simp only [Option.some.injEq, Prod.mk.injEq] at H
    obtain ⟨rfl, rfl⟩ := H
    go_enter Tryz.func17, Tryz.ntmps17
    go_wp2_with (first | ((with_reducible refine gate_callee (f := 15) rfl ?_); refine goesL_ (some 11) rfl rfl Tryz.func15 (by kernel_rfl) rfl #[.int .i64 a0] rfl (by (try simp only [List.map_toArray, List.map_cons, List.map_nil]); first | done | rfl | (simp only [List.length_drop, List.length_take]; rfl)) ?_; (with_reducible refine (spec_AllLoops.calls k a0 t197 false _ A2.out).mono ?_); rintro e w11 ⟨v199, rfl, ho0, hb⟩; refine ⟨_, rfl, ?_⟩; have n0_ := Aside0.mk (Kd.R_lower ho0 (below_size (by repeat (first | (with_reducible first | exact HB.out | apply below_alloc | apply pw_below_drewN | apply below_drew1) | exact HB.out)))); have n1_ := Aside0.mk (below_step (by repeat (first | (with_reducible first | exact HB.out | apply below_alloc | apply pw_below_drewN | apply below_drew1) | exact HB.out)) hb); clear HB; have HO200 := n0_; have HB := n1_; clear n0_ n1_; (try clear hb); (try clear hb2); (try clear hk); (try clear hi); (try clear ho0)))
    go_ret2
    exact ⟨by first | rfl | (simp [errW_none, errW_some] <;> rfl) | (simp [*, errW_none, errW_some] <;> rfl), by repeat (first | (with_reducible first | exact HB.out | apply below_alloc | apply pw_below_drewN | apply below_drew1) | exact HB.out)⟩

end Go.Proofs.YtcgoaipbfnhjhaaGreatDoor.Pr

-- Written by a program for this claim.
namespace Go.Proofs.YtcgoaipbfnhjhaaGreatDoor.Pr
open Go.RowKit Go.Proofs.YtcgoaipbfnhjhaaGreatDoorW.PrintWords Go.Proofs.YtcgoaipbfnhjhaaGreatDoorW.PrintLast Go.Proofs.YtcgoaipbfnhjhaaGreatDoorW.PrintMore
attribute [local go_sem] max2_int min2_int max_two min_two max_three min_three max_four min_four   -- for this text's walks alone
set_option linter.unusedVariables false
set_option linter.unusedSimpArgs false

/-! ### spec_l1Cur_of: function 115 -/
def spec_l1Cur_of.f (s0_0 : List Int) (s0_1 : Int) (s0_2 : Int) (l1 : List ByteArray) : Option (ByteArray × Int × Int) := (spec_l1Cur_pick.f s0_0 s0_1 s0_2 (l1.length : Int)).bind fun bt234 => (if 0 ≤ bt234.1 then (if bt234.1 < (l1.length : Int) then (some (rdOf ByteArray.empty l1 bt234.1, bt234.2.1, bt234.2.2)) else (none)) else (none))
set_option maxHeartbeats 8000000 in
set_option maxRecDepth 100000 in
theorem spec_l1Cur_of.calls (g : Nat) (s0_0 : List Int) (s0_1 : Int) (s0_2 : Int) (A1 : Option Addr) (c1 : Nat) (l1 : List ByteArray) (r1 : ByteArray) (r2 : Int) (r3 : Int) (w0 w : World) (hI : IsS54 w0 w g s0_0 s0_1 s0_2) (hB : Below w0.heap.size w0 w) (hr1 : Kd.C Kd.string w A1 l1.length l1) (hc1 : l1.length ≤ c1) (hf1 : ∀ ad, A1 = some ad → 0 < l1.length → ad.block ≠ g) (h : spec_l1Cur_of.f s0_0 s0_1 s0_2 l1 = some (r1, r2, r3)) :
    Calls Tryz.prog 115 #[.pointer (some ⟨g, 0, none⟩), .slice A1 l1.length c1] w fun e w' => e = .returned (.string r1) ∧ IsS54 w0 w' g s0_0 r2 r3 ∧ Below w0.heap.size w0 w' ∧ KeepBut w w' g none := by
  have HR1 := Aside0.mk hr1
  have HC1 := Aside0.mk hc1
  clear hr1 hc1
  have HI0 := Aside0.mk hI
  have HK := Aside0.mk (KeepBut.refl w g none)
  have HL := Aside0.mk hB.size
  clear hI
  have HW0 := Aside0.mk hB.size
  have HB := Aside0.mk hB
  clear hB
  have H : ((spec_l1Cur_pick.f s0_0 s0_1 s0_2 (l1.length : Int)).bind fun bt234 => (if 0 ≤ bt234.1 then (if bt234.1 < (l1.length : Int) then (some (rdOf ByteArray.empty l1 bt234.1, bt234.2.1, bt234.2.2)) else (none)) else (none))) = some (r1, r2, r3) := h
  clear h
  replace H := Option.bind_eq_some_iff.mp H
  obtain ⟨⟨t234, t235, t236⟩, A30, H⟩ := H
  replace H : (if 0 ≤ t234 then (if t234 < (l1.length : Int) then (some (rdOf ByteArray.empty l1 t234, t235, t236)) else (none)) else (none)) = some (r1, r2, r3) := H
  have A3 := Aside0.mk A30
  clear A30
  by_cases c4 : 0 ≤ t234
  · rw [if_pos c4] at H
    have c4b0 : decide (0 ≤ t234) = true := decide_eq_true c4
    clear c4
    by_cases c5 : t234 < (l1.length : Int)
    · rw [if_pos c5] at H
      have c5b0 : decide (t234 < (l1.length : Int)) = true := decide_eq_true c5
      clear c5
      simp only [Option.some.injEq, Prod.mk.injEq] at H
      obtain ⟨rfl, rfl, rfl⟩ := H
      go_enter Tryz.func115, Tryz.ntmps115
      go_wp2_with (first | ((with_reducible refine gate_callee (f := 73) rfl ?_); refine goesL_ (some 9) rfl rfl Tryz.func73 (by kernel_rfl) rfl #[.pointer (some ⟨g, 0, none⟩), .int .i64 (l1.length : Int)] rfl (by (try simp only [List.map_toArray, List.map_cons, List.map_nil]); first | done | rfl | (simp only [List.length_drop, List.length_take]; rfl)) ?_; (with_reducible refine (spec_l1Cur_pick.calls g s0_0 s0_1 s0_2 (l1.length : Int) t234 t235 t236 w0 _ ?side1 ?side2 A3.out).mono ?_); (case side1 => repeat (first | (with_reducible first | exact HI0.out | apply IsS54.alloc | apply IsS54.drewN | apply IsS54.drew | apply IsS54.set_1 | apply IsS54.set_2) | exact HI0.out)); (case side2 => repeat (first | (with_reducible first | exact HB.out | apply below_alloc | apply pw_below_drewN | apply below_drew1 | refine below_set ?_ (IsS54.ge HI0.out)) | exact HB.out)); rintro e w6 ⟨rfl, hi, hb, hk⟩; refine ⟨_, rfl, ?_⟩; have n0_ := Aside0.mk (KeepBut.trans (by repeat (first | (with_reducible first | exact HK.out | apply KeepBut.set_ | apply keep_drewN | apply keep_drew | apply keep_alloc) | exact HK.out)) hk (.inl rfl)); have n1_ := Aside0.mk (hb); have n2_ := Aside0.mk (hi); clear HK; clear HB; clear HI0; have HK := n0_; have HB := n1_; have HI0 := n2_; clear n0_ n1_ n2_; (try clear hb); (try clear hb2); (try clear hk); (try clear hi); have p237 : 0 ≤ (t234 : Int) := of_decide_eq_true (by first | (with_reducible assumption) | assumption); have q237 : t234 < (l1.length : Int) := of_decide_eq_true (by first | (with_reducible assumption) | assumption); obtain ⟨ad237, e237, hx237_0⟩ := Kd.at_string HR1.out t234 p237 q237; cases e237; replace hx237_0 := keep_cell HK.out hx237_0 (by first | (rw [add_block]; exact hf1 _ rfl (by omega)) | exact hf1 _ rfl (by omega) | exact hf1 ad237 rfl (by omega)); replace p237 := eq_true p237; replace q237 := eq_true q237))
      go_ret
      exact ⟨by first | rfl | (simp [errW_none, errW_some] <;> rfl) | (simp [*, errW_none, errW_some] <;> rfl), by repeat (first | (with_reducible first | exact HI0.out | apply IsS54.alloc | apply IsS54.drewN | apply IsS54.drew | apply IsS54.set_1 | apply IsS54.set_2) | exact HI0.out), by repeat (first | (with_reducible first | exact HB.out | apply below_alloc | apply pw_below_drewN | apply below_drew1 | refine below_set ?_ (IsS54.ge HI0.out)) | exact HB.out), by repeat (first | (with_reducible first | exact HK.out | apply KeepBut.set_ | apply keep_drewN | apply keep_drew | apply keep_alloc) | exact HK.out)⟩
    · rw [if_neg c5] at H
      exact absurd H (by simp)
  · rw [if_neg c4] at H
    exact absurd H (by simp)

end Go.Proofs.YtcgoaipbfnhjhaaGreatDoor.Pr

-- Written by a program for this claim.
namespace Go.Proofs.YtcgoaipbfnhjhaaGreatDoor.Pr
open Go.RowKit Go.Proofs.YtcgoaipbfnhjhaaGreatDoorW.PrintWords Go.Proofs.YtcgoaipbfnhjhaaGreatDoorW.PrintLast Go.Proofs.YtcgoaipbfnhjhaaGreatDoorW.PrintMore
attribute [local go_sem] max2_int min2_int max_two min_two max_three min_three max_four min_four   -- for this text's walks alone
set_option linter.unusedVariables false
set_option linter.unusedSimpArgs false

/-! ### spec_l1Least: function 130 -/
def spec_l1Least.f (a0 : Int) (a1 : Int) : Option (Int) := if a0 < a1 then (some a0) else (some a1)
set_option maxHeartbeats 8000000 in
set_option maxRecDepth 100000 in
theorem spec_l1Least.calls (a0 : Int) (a1 : Int) (r : Int) (w : World) (h : spec_l1Least.f a0 a1 = some r) :
    Calls Tryz.prog 130 #[.int .i64 a0, .int .i64 a1] w fun e w' => e = .returned (.int .i64 r) ∧ Drawn0 w w' := by
  have H : (if a0 < a1 then (some a0) else (some a1)) = some r := h
  clear h
  by_cases c3 : a0 < a1
  · rw [if_pos c3] at H
    have c3b0 : decide (a0 < a1) = true := decide_eq_true c3
    clear c3
    obtain rfl := Option.some.inj H
    go_enter Tryz.func130, Tryz.ntmps130
    go_wp2
    go_ret
    exact ⟨by first | rfl | (simp; done) | (simp [*]; done), by repeat (first | exact Drawn0.refl _ | apply Drawn0.step)⟩
  · rw [if_neg c3] at H
    have c3b0 : decide (a0 < a1) = false := decide_eq_false c3
    clear c3
    obtain rfl := Option.some.inj H
    go_enter Tryz.func130, Tryz.ntmps130
    go_wp2
    go_ret
    exact ⟨by first | rfl | (simp; done) | (simp [*]; done), by repeat (first | exact Drawn0.refl _ | apply Drawn0.step)⟩

end Go.Proofs.YtcgoaipbfnhjhaaGreatDoor.Pr

-- Written by a program for this claim.
namespace Go.Proofs.YtcgoaipbfnhjhaaGreatDoor.Pr
open Go.RowKit Go.Proofs.YtcgoaipbfnhjhaaGreatDoorW.PrintWords Go.Proofs.YtcgoaipbfnhjhaaGreatDoorW.PrintLast Go.Proofs.YtcgoaipbfnhjhaaGreatDoorW.PrintMore
attribute [local go_sem] max2_int min2_int max_two min_two max_three min_three max_four min_four   -- for this text's walks alone
set_option linter.unusedVariables false
set_option linter.unusedSimpArgs false

/-! ### spec_l1Cur_sureLoop: function 116 -/
def spec_l1Cur_sureLoop.f (k : Nat) (s0_0 : List Int) (s0_1 : Int) (s0_2 : Int) (a1 : Int) : Option (ByteArray × Int × Int) := (spec_l1Cur_pick.f s0_0 s0_1 s0_2 (wrap64 (a1 + 1))).bind fun bt238 => ((spec_loCount.f k bt238.1).bind fun t241 => ((spec_l1Least.f 2000 t241).bind fun t242 => ((spec_l1Cur_pick.f s0_0 bt238.2.1 bt238.2.2 t242).bind fun bt243 => ((spec_loRanked.f k bt238.1 bt243.1).bind fun t246 => (some (t246, bt243.2.1, bt243.2.2))))))
theorem spec_l1Cur_sureLoop.mono : ∀ a0 a1 a2 a3 k, LeO (spec_l1Cur_sureLoop.f k a0 a1 a2 a3) (spec_l1Cur_sureLoop.f (k + 1) a0 a1 a2 a3) := by
  intro a0 a1 a2 a3 k
  unfold spec_l1Cur_sureLoop.f
  repeat' first
      | (with_reducible exact spec_loCount.mono _ _)
      | (with_reducible exact spec_loRanked.mono _ _ _)
      | (with_reducible exact LeO.refl _)
      | (with_reducible exact LeO.none _)
      | (with_reducible refine LeO.ite ?_ ?_)
      | (with_reducible refine LeO.bind ?_ (fun _ => ?_))
      | exact spec_loCount.mono _ _
      | exact spec_loRanked.mono _ _ _
      | exact LeO.none _
      | refine LeO.ite ?_ ?_
      | refine LeO.bind ?_ (fun _ => ?_)
set_option maxHeartbeats 8000000 in
set_option maxRecDepth 100000 in
theorem spec_l1Cur_sureLoop.calls (k : Nat) (g : Nat) (s0_0 : List Int) (s0_1 : Int) (s0_2 : Int) (a1 : Int) (r1 : ByteArray) (r2 : Int) (r3 : Int) (w0 w : World) (hI : IsS54 w0 w g s0_0 s0_1 s0_2) (hB : Below w0.heap.size w0 w) (h : spec_l1Cur_sureLoop.f k s0_0 s0_1 s0_2 a1 = some (r1, r2, r3)) :
    Calls Tryz.prog 116 #[.pointer (some ⟨g, 0, none⟩), .int .i64 a1] w fun e w' => e = .returned (.string r1) ∧ IsS54 w0 w' g s0_0 r2 r3 ∧ Below w0.heap.size w0 w' ∧ KeepBut w w' g none := by
  have HI0 := Aside0.mk hI
  have HK := Aside0.mk (KeepBut.refl w g none)
  have HL := Aside0.mk hB.size
  clear hI
  have HW0 := Aside0.mk hB.size
  have HB := Aside0.mk hB
  clear hB
  have H : ((spec_l1Cur_pick.f s0_0 s0_1 s0_2 (wrap64 (a1 + 1))).bind fun bt238 => ((spec_loCount.f k bt238.1).bind fun t241 => ((spec_l1Least.f 2000 t241).bind fun t242 => ((spec_l1Cur_pick.f s0_0 bt238.2.1 bt238.2.2 t242).bind fun bt243 => ((spec_loRanked.f k bt238.1 bt243.1).bind fun t246 => (some (t246, bt243.2.1, bt243.2.2))))))) = some (r1, r2, r3) := h
  clear h
  replace H := Option.bind_eq_some_iff.mp H
  obtain ⟨⟨t238, t239, t240⟩, A30, H⟩ := H
  replace H : ((spec_loCount.f k t238).bind fun t241 => ((spec_l1Least.f 2000 t241).bind fun t242 => ((spec_l1Cur_pick.f s0_0 t239 t240 t242).bind fun bt243 => ((spec_loRanked.f k t238 bt243.1).bind fun t246 => (some (t246, bt243.2.1, bt243.2.2)))))) = some (r1, r2, r3) := H
  have A3 := Aside0.mk A30
  clear A30
  replace H := Option.bind_eq_some_iff.mp H
  obtain ⟨t241, A40, H⟩ := H
  replace H : ((spec_l1Least.f 2000 t241).bind fun t242 => ((spec_l1Cur_pick.f s0_0 t239 t240 t242).bind fun bt243 => ((spec_loRanked.f k t238 bt243.1).bind fun t246 => (some (t246, bt243.2.1, bt243.2.2))))) = some (r1, r2, r3) := H
  have A4 := Aside0.mk A40
  clear A40
  replace H := Option.bind_eq_some_iff.mp H
  obtain ⟨t242, A50, H⟩ := H
  replace H : ((spec_l1Cur_pick.f s0_0 t239 t240 t242).bind fun bt243 => ((spec_loRanked.f k t238 bt243.1).bind fun t246 => (some (t246, bt243.2.1, bt243.2.2)))) = some (r1, r2, r3) := H
  have A5 := Aside0.mk A50
  clear A50
  replace H := Option.bind_eq_some_iff.mp H
  obtain ⟨⟨t243, t244, t245⟩, A60, H⟩ := H
  replace H : ((spec_loRanked.f k t238 t243).bind fun t246 => (some (t246, t244, t245))) = some (r1, r2, r3) := H
  have A6 := Aside0.mk A60
  clear A60
  replace H := Option.bind_eq_some_iff.mp H
  obtain ⟨t246, A70, H⟩ := H
  replace H : (some (t246, t244, t245)) = some (r1, r2, r3) := H
  have A7 := Aside0.mk A70
  clear A70
  simp only [Option.some.injEq, Prod.mk.injEq] at H
  obtain ⟨rfl, rfl, rfl⟩ := H
  go_enter Tryz.func116, Tryz.ntmps116
  go_wp2_with (first | ((with_reducible refine gate_callee (f := 73) rfl ?_); refine goesL_ (some 9) rfl rfl Tryz.func73 (by kernel_rfl) rfl #[.pointer (some ⟨g, 0, none⟩), .int .i64 (wrap64 (a1 + 1))] rfl (by (try simp only [List.map_toArray, List.map_cons, List.map_nil]); first | done | rfl | (simp only [List.length_drop, List.length_take]; rfl)) ?_; (with_reducible refine (spec_l1Cur_pick.calls g s0_0 s0_1 s0_2 (wrap64 (a1 + 1)) t238 t239 t240 w0 _ ?side1 ?side2 A3.out).mono ?_); (case side1 => repeat (first | (with_reducible first | exact HI0.out | apply IsS54.alloc | apply IsS54.drewN | apply IsS54.drew | apply IsS54.set_1 | apply IsS54.set_2) | exact HI0.out)); (case side2 => repeat (first | (with_reducible first | exact HB.out | apply below_alloc | apply pw_below_drewN | apply below_drew1 | refine below_set ?_ (IsS54.ge HI0.out)) | exact HB.out)); rintro e w8 ⟨rfl, hi, hb, hk⟩; refine ⟨_, rfl, ?_⟩; have n0_ := Aside0.mk (KeepBut.trans (by repeat (first | (with_reducible first | exact HK.out | apply KeepBut.set_ | apply keep_drewN | apply keep_drew | apply keep_alloc) | exact HK.out)) hk (.inl rfl)); have n1_ := Aside0.mk (hb); have n2_ := Aside0.mk (hi); clear HK; clear HB; clear HI0; have HK := n0_; have HB := n1_; have HI0 := n2_; clear n0_ n1_ n2_; (try clear hb); (try clear hb2); (try clear hk); (try clear hi)) | ((with_reducible refine gate_callee (f := 59) rfl ?_); refine goesL_ (some 13) rfl rfl Tryz.func59 (by kernel_rfl) rfl #[.int .i64 t238] rfl (by (try simp only [List.map_toArray, List.map_cons, List.map_nil]); first | done | rfl | (simp only [List.length_drop, List.length_take]; rfl)) ?_; (with_reducible refine (spec_loCount.calls k t238 t241 _ A4.out).mono ?_); rintro e w' ⟨rfl, ⟨nd, rfl⟩⟩; refine ⟨_, rfl, ?_⟩) | ((with_reducible refine gate_callee (f := 130) rfl ?_); refine goesL_ (some 14) rfl rfl Tryz.func130 (by kernel_rfl) rfl #[.int .i64 2000, .int .i64 t241] rfl (by (try simp only [List.map_toArray, List.map_cons, List.map_nil]); first | done | rfl | (simp only [List.length_drop, List.length_take]; rfl)) ?_; (with_reducible refine (spec_l1Least.calls 2000 t241 t242 _ A5.out).mono ?_); rintro e w' ⟨rfl, ⟨nd, rfl⟩⟩; refine ⟨_, rfl, ?_⟩) | ((with_reducible refine gate_callee (f := 73) rfl ?_); refine goesL_ (some 15) rfl rfl Tryz.func73 (by kernel_rfl) rfl #[.pointer (some ⟨g, 0, none⟩), .int .i64 t242] rfl (by (try simp only [List.map_toArray, List.map_cons, List.map_nil]); first | done | rfl | (simp only [List.length_drop, List.length_take]; rfl)) ?_; (with_reducible refine (spec_l1Cur_pick.calls g s0_0 t239 t240 t242 t243 t244 t245 w0 _ ?side1 ?side2 A6.out).mono ?_); (case side1 => repeat (first | (with_reducible first | exact HI0.out | apply IsS54.alloc | apply IsS54.drewN | apply IsS54.drew | apply IsS54.set_1 | apply IsS54.set_2) | exact HI0.out)); (case side2 => repeat (first | (with_reducible first | exact HB.out | apply below_alloc | apply pw_below_drewN | apply below_drew1 | refine below_set ?_ (IsS54.ge HI0.out)) | exact HB.out)); rintro e w9 ⟨rfl, hi, hb, hk⟩; refine ⟨_, rfl, ?_⟩; have n0_ := Aside0.mk (KeepBut.trans (by repeat (first | (with_reducible first | exact HK.out | apply KeepBut.set_ | apply keep_drewN | apply keep_drew | apply keep_alloc) | exact HK.out)) hk (.inl rfl)); have n1_ := Aside0.mk (hb); have n2_ := Aside0.mk (hi); clear HK; clear HB; clear HI0; have HK := n0_; have HB := n1_; have HI0 := n2_; clear n0_ n1_ n2_; (try clear hb); (try clear hb2); (try clear hk); (try clear hi)) | ((with_reducible refine gate_callee (f := 60) rfl ?_); refine goesL_ (some 16) rfl rfl Tryz.func60 (by kernel_rfl) rfl #[.int .i64 t238, .int .i64 t243] rfl (by (try simp only [List.map_toArray, List.map_cons, List.map_nil]); first | done | rfl | (simp only [List.length_drop, List.length_take]; rfl)) ?_; (with_reducible refine (spec_loRanked.calls k t238 t243 t246 _ A7.out).mono ?_); rintro e w' ⟨rfl, ⟨nd, rfl⟩⟩; refine ⟨_, rfl, ?_⟩))
  go_ret
  exact ⟨by first | rfl | (simp [errW_none, errW_some] <;> rfl) | (simp [*, errW_none, errW_some] <;> rfl), by repeat (first | (with_reducible first | exact HI0.out | apply IsS54.alloc | apply IsS54.drewN | apply IsS54.drew | apply IsS54.set_1 | apply IsS54.set_2) | exact HI0.out), by repeat (first | (with_reducible first | exact HB.out | apply below_alloc | apply pw_below_drewN | apply below_drew1 | refine below_set ?_ (IsS54.ge HI0.out)) | exact HB.out), by repeat (first | (with_reducible first | exact HK.out | apply KeepBut.set_ | apply keep_drewN | apply keep_drew | apply keep_alloc) | exact HK.out)⟩

end Go.Proofs.YtcgoaipbfnhjhaaGreatDoor.Pr
