/- Letters are interlaced both ways, loops that are turned and told back are the same and drawn alike, and crossings are taken out. Condition: none. -/
import Derived.Lib.SplitLaws
import Derived.WalkSmall
import Derived.RowKit
import Derived.Deep.Slices
import Derived.Deep.Fields
import Derived.ChangeSame
import Derived.ChangeShapes
import Derived.Below
import Derived.Carry
import Derived.Lib.SmallJoins
import Derived.OpenShut
import Derived.Test.YtcgoaipbfnhjhaaGreatDoorCards
import Derived.Test.YtcgoaipbfnhjhaaGreatDoorTie
import Derived.LaidMore
import Derived.Lay
import Derived.Stop.Joined
import Derived.Handed
import Derived.SevenTiedAt
import Derived.Test.YtcgoaipbfnhjhaaGreatDoorRows
import Derived.WalkKit
import Derived.ProofKit
import Derived.ShutString
import Derived.ChangeOld
import Derived.SizedLaws
import Derived.ChangeSlices
import Derived.Test.YtcgoaipbfnhjhaaGreatDoorKFnLoopsLace0
import Derived.Test.YtcgoaipbfnhjhaaGreatDoorKFnLoopsLace1
import Derived.Test.YtcgoaipbfnhjhaaGreatDoorKFnLoopsLace2
import Derived.Test.YtcgoaipbfnhjhaaGreatDoorKFnLoopsLace3
import Derived.Test.YtcgoaipbfnhjhaaGreatDoorKFnLoopsLace4
/- What the laced loops are asked: the program and the reference answer alike. Plain, over the printed functions. -/
namespace Go.Proofs.YtcgoaipbfnhjhaaGreatDoor.M
open Go.RowKit Go.Proofs.YtcgoaipbfnhjhaaGreatDoor.Pr Go.Proofs.YtcgoaipbfnhjhaaGreatDoorW.PrintWords Go.Proofs.YtcgoaipbfnhjhaaGreatDoorW.PrintLast
set_option linter.unusedVariables false
set_option linter.unusedSimpArgs false

def curlS (w : ByteArray) (c : Int) : Bool := let a := plcL c (bytesOf w) 0 (-1, -1); decide (a.2 - a.1 = 1) || (decide (a.1 = 0) && decide (a.2 = (w.size : Int) - 1))
theorem curl_eq (w : ByteArray) (m : Nat) (h : M.Loop (bytesOf w) m) (c : Int) (h1 : 97 ≤ c) (h2 : c < 97 + (m : Int)) : curlB w c = curlS w c := by
  obtain ⟨p, q, r, e, n1, n2, n3⟩ := two_parts c _ (h.cnt h1 h2)
  have hl := bytesOf_length w
  rw [e] at hl
  simp only [List.length_append, List.length_cons] at hl
  have hf := h.few
  unfold curlB curlS
  rw [indexB_eq w c (by omega) (by omega), last_parts e n3, e, plc_parts n1 n2 n3]
  unfold ixL
  rw [if_pos (by simp), idx_parts n1, Bool.eq_iff_iff]
  simp only [Bool.or_eq_true, beq_iff_eq, Bool.and_eq_true, decide_eq_true_eq]
  omega
def curlR (w : ByteArray) : ByteArray × Bool := if goodS w = true then (strOfNums (lettP (curlB w) 97 (w.size / 2)), true) else (⟨#[]⟩, false)
theorem lett_byte (p : Int → Bool) : ∀ (d : Nat) (x : Int), 0 ≤ x → x + d ≤ 256 → ∀ y ∈ lettP p x d, 0 ≤ y ∧ y < 256
  | 0, _, _, _, y, hy => by simp [lettP] at hy
  | d + 1, x, h0, h1, y, hy => by
    unfold lettP at hy
    split at hy
    · rcases List.mem_cons.1 hy with e | hy
      · omega
      · exact lett_byte p d (x + 1) (by omega) (by omega) y hy
    · exact lett_byte p d (x + 1) (by omega) (by omega) y hy
theorem curls_l0 (w : ByteArray) (m : Nat) (h : M.Loop (bytesOf w) m) : ∀ (d : Nat) (i : Int) (out : ByteArray), 0 ≤ i → i + d = m → out.size ≤ i →
    Ev (fun k => spec_CurlsOf.l0 k w out i) (strOfNums (bytesOf out ++ lettP (curlB w) (97 + i) d), true)
  | 0, i, out, h0, hd, hs => by
    have hl := bytesOf_length w
    have hlen := h.len
    have hf := h.few
    refine Ev.step (fun k => by rw [spec_CurlsOf.l0]) ?_
    rw [w64 (x := (w.size : Int) / 2) (by omega) (by omega)]
    refine Ev.neg (by omega) (Ev.val ?_)
    rw [lettP, List.append_nil, strOf_bytesOf]
  | d + 1, i, out, h0, hd, hs => by
    have hl := bytesOf_length w
    have hlen := h.len
    have hf := h.few
    have e97 : (wrap64 (97 + i)) % 256 = 97 + i := by rw [w64 (by omega) (by omega)]; omega
    have hc := curl_eq w m h (97 + i) (by omega) (by omega)
    obtain ⟨a, rfl⟩ := Int.eq_ofNat_of_zero_le h0
    have h16 : a < 16 := by omega
    have hsz := abc_size a h16
    unfold abc16 at hsz
    have hz : w.size ≤ 16 := by omega
    have hpl : ∀ x : Int × Int, plcL (97 + (a : Int)) (bytesOf w) 0 (-1, -1) = x → -1 ≤ x.1 ∧ x.1 ≤ 100 ∧ -1 ≤ x.2 ∧ x.2 ≤ 100 := fun x hx => by
      obtain ⟨p, q, r, e, n1, n2, n3⟩ := two_parts (97 + (a : Int)) _ (h.cnt (by omega) (by omega))
      rw [e, plc_parts n1 n2 n3] at hx
      rw [e] at hl
      simp only [List.length_append, List.length_cons] at hl
      subst hx
      dsimp only
      omega
    have goYes : curlB w (97 + (a : Int)) = true → Ev (fun k => spec_CurlsOf.l0 k w (out ++ (⟨#[97, 98, 99, 100, 101, 102, 103, 104, 105, 106, 107, 108, 109, 110, 111, 112]⟩ : ByteArray).extract a (a + 1)) ((a : Int) + 1)) (strOfNums (bytesOf out ++ lettP (curlB w) (97 + (a : Int)) (d + 1)), true) := fun hy => by
      have e := curls_l0 w m h d ((a : Int) + 1) (out ++ abc16.extract a (a + 1)) (by omega) (by omega) (by rw [ByteArray.size_append, abc_size a h16]; omega)
      rw [bytesOf_append, abc_one a h16, List.append_assoc] at e
      rw [lettP, if_pos hy]
      rw [show (97 : Int) + (a : Int) + 1 = 97 + ((a : Int) + 1) by omega]
      exact e
    have goNo : ¬ curlB w (97 + (a : Int)) = true → Ev (fun k => spec_CurlsOf.l0 k w out ((a : Int) + 1)) (strOfNums (bytesOf out ++ lettP (curlB w) (97 + (a : Int)) (d + 1)), true) := fun hy => by
      have e := curls_l0 w m h d ((a : Int) + 1) out (by omega) (by omega) (by omega)
      rw [lettP, if_neg hy]
      rw [show (97 : Int) + (a : Int) + 1 = 97 + ((a : Int) + 1) by omega]
      exact e
    refine Ev.step (fun k => by rw [spec_CurlsOf.l0]) ?_
    rw [w64 (x := (w.size : Int) / 2) (by omega) (by omega), e97]
    refine Ev.pos (by omega) (Ev.bindk (loPlaces_ev w _ (by omega)) ?_)
    rw [hc] at goYes goNo
    unfold curlS at goYes goNo
    generalize hx : plcL (97 + (a : Int)) (bytesOf w) 0 (-1, -1) = x at goYes goNo ⊢
    have hb := hpl x hx
    rw [w64 (x := x.2 - x.1) (by omega) (by omega), w64 (x := (a : Int) + 1) (by omega) (by omega), w64 (x := (w.size : Int) - 1) (by omega) (by omega), show ((a : Int) + 1).toNat = a + 1 by omega, Int.toNat_natCast]
    by_cases c1 : x.2 - x.1 = 1
    · refine Ev.pos c1 (Ev.pos (by omega) (Ev.pos (by omega) (Ev.pos (by omega) (Ev.pos (by omega) (goYes (by simp [c1]))))))
    · refine Ev.neg c1 ?_
      by_cases c2 : x.1 = 0
      · refine Ev.pos c2 ?_
        by_cases c3 : x.2 = (w.size : Int) - 1
        · exact Ev.pos c3 (Ev.pos (by omega) (Ev.pos (by omega) (Ev.pos (by omega) (Ev.pos (by omega) (goYes (by simp [c2, c3]))))))
        · exact Ev.neg c3 (goNo (by simp [c1, c3]))
      · exact Ev.neg c2 (goNo (by simp [c1, c2]))
theorem curlS_ev (w : ByteArray) : Ev (fun k => spec_CurlsOf.f k w) (curlR w) := by
      unfold spec_CurlsOf.f curlR
      refine Ev.bindk (loGood_ev w) ?_
      by_cases h : goodS w = true
      · refine Ev.pos h ?_
        rw [if_pos h]
        obtain ⟨m, hm⟩ := loop_of h
        have hl := bytesOf_length w
        have hlen := hm.len
        have e := curls_l0 w m hm m 0 ⟨#[]⟩ (by omega) (by omega) (by simp [ByteArray.size])
        rw [show w.size / 2 = m by omega]
        exact e
      · refine Ev.neg h ?_
        rw [if_neg h]
        exact Ev.val rfl
theorem curlI_ev (w : ByteArray) : Ev (fun k => impl_CurlsOf.f k w) (curlR w) := by
      unfold impl_CurlsOf.f curlR
      refine Ev.bindk (isLoop_ev w) ?_
      by_cases h : goodS w = true
      · have h16 := good_size h
        refine Ev.pos h ?_
        rw [if_pos h]
        exact Ev.pos h16 (Ev.val rfl)
      · refine Ev.neg h ?_
        rw [if_neg h]
        exact Ev.val rfl
theorem one_part (x : Int) : ∀ (w : List Int), w.count x = 1 → ∃ p q, w = p ++ x :: q ∧ x ∉ p ∧ x ∉ q
  | [], h => by simp at h
  | y :: w, h => by
    by_cases e : y = x
    · subst e
      rw [List.count_cons_self] at h
      exact ⟨[], w, rfl, by simp, List.count_eq_zero.1 (by omega)⟩
    · rw [List.count_cons_of_ne e] at h
      obtain ⟨p, q, rfl, h1, h2⟩ := one_part x w h
      exact ⟨y :: p, q, rfl, by simp only [List.mem_cons, not_or]; exact ⟨fun h => e h.symm, h1⟩, h2⟩
theorem plc_ne (x : Int) (l : List Int) (hm : x ∈ l) (h2 : l.count x ≤ 2) : (plcL x l 0 (-1, -1)).1 = (plcL x l 0 (-1, -1)).2 ↔ ¬ l.count x = 2 := by
  have h1 : 0 < l.count x := List.count_pos_iff.2 hm
  by_cases h : l.count x = 2
  · obtain ⟨p, q, r, e, a, b, c⟩ := two_parts x l h
    rw [e, plc_parts a b c]
    rw [e] at h
    simp only [h, not_true, iff_false]
    omega
  · obtain ⟨p, q, e, a, b⟩ := one_part x l (by omega)
    have e2 := plc_skip x q [] ((p.length : Int) + 1) ((p.length : Int), (p.length : Int)) b
    rw [List.append_nil] at e2
    have e3 : plcL x l 0 (-1, -1) = ((p.length : Int), (p.length : Int)) := by
      rw [e, plc_skip x p _ 0 _ a, show (0 : Int) + (p.length : Int) = p.length by omega, plcL, if_pos rfl, if_pos (show ((-1, -1) : Int × Int).1 < 0 by decide), e2]
      rfl
    rw [e3]
    simp [h]
theorem whole_eq (t : ByteArray) : wholeB t = (bytesOf t).all fun x => (bytesOf t).count x == 2 := by
  have h : ∀ l : List Int, (∀ x ∈ l, missB t x = !((bytesOf t).count x == 2)) → (!(l.any (missB t))) = l.all fun x => (bytesOf t).count x == 2 := by
    intro l
    induction l with
    | nil => intro _; rfl
    | cons x l ih =>
      intro hl
      rw [List.any_cons, List.all_cons, ← ih (fun y hy => hl y (List.mem_cons_of_mem _ hy)), hl x (List.mem_cons_self ..)]
      cases ((bytesOf t).count x == 2) <;> cases l.any (missB t) <;> rfl
  refine h _ (fun x hx => ?_)
  obtain ⟨h0, h1⟩ := bytesOf_byte t x hx
  unfold missB
  rw [count_eq t x h0 h1]
  by_cases e : (bytesOf t).count x = 2
  · rw [e]; rfl
  · rw [show ((bytesOf t).count x == 2) = false from beq_eq_false_iff_ne.2 e]
    exact bne_iff_ne.2 (by omega)
theorem loWhole_ev (t : ByteArray) (hs : t.size ≤ 1000000) (hc : ∀ x, (bytesOf t).count x ≤ 2) : Ev (fun k => spec_loWhole.f k t) (wholeB t) := by
  unfold spec_loWhole.f
  rw [whole_eq]
  have hlen := bytesOf_length t
  have key : ∀ (d i : Nat), i + d = t.size → Ev (fun k => spec_loWhole.l0 k t (i : Int)) (((bytesOf t).drop i).all fun x => (bytesOf t).count x == 2) := by
    intro d
    induction d with
    | zero =>
      intro i hi
      refine Ev.step (fun k => by rw [spec_loWhole.l0]) ?_
      refine Ev.neg (by omega) (Ev.val ?_)
      rw [List.drop_of_length_le (by omega)]
      rfl
    | succ d ih =>
      intro i hi
      have hlt : i < (bytesOf t).length := by omega
      refine Ev.step (fun k => by rw [spec_loWhole.l0]) ?_
      rw [bytesOf_get t i hlt, w64 (x := (i : Int) + 1) (by omega) (by omega)]
      refine Ev.pos (by omega) (Ev.pos (by omega) (Ev.bindk (loPlaces_ev t _ hs) ?_))
      rw [List.drop_eq_getElem_cons hlt, List.all_cons]
      have hp := plc_ne ((bytesOf t)[i]) (bytesOf t) (List.getElem_mem hlt) (hc _)
      by_cases h : (bytesOf t).count ((bytesOf t)[i]) = 2
      · rw [h]
        refine Ev.neg (fun e => hp.1 e h) ?_
        have e := ih (i + 1) (by omega)
        simpa using e
      · rw [show ((bytesOf t).count ((bytesOf t)[i]) == 2) = false from beq_eq_false_iff_ne.2 h]
        exact Ev.pos (hp.2 h) (Ev.val rfl)
  have e := key t.size 0 (by omega)
  simpa using e
theorem sizes_ev (t : ByteArray) (hs : t.size ≤ 1000) (hc : ∀ x, (bytesOf t).count x ≤ 2) : ∀ (d sz : Nat), Ev (fun k => sizesF k t d sz) (sizesB t d sz)
  | 0, _ => Ev.val rfl
  | d + 1, sz => by
    simp only [sizesF]
    unfold sizesB
    refine Ev.bindk (loWhole_ev (t.extract 0 sz) (by rw [ByteArray.size_extract]; omega) (fun x => ?_)) ?_
    · rw [bytesOf_extract, List.drop_zero]
      exact Nat.le_trans ((List.take_sublist sz (bytesOf t)).count_le x) (hc x)
    · by_cases h : wholeB (t.extract 0 sz) = true
      · rw [if_pos h]
        exact Ev.pos h (Ev.val rfl)
      · rw [if_neg h]
        exact Ev.neg h (sizes_ev t hs hc d (sz + 1))
theorem from_ev (s : ByteArray) (hs : s.size ≤ 16) (hc : ∀ x, (bytesOf s).count x ≤ 2) : ∀ (d i : Nat), Ev (fun k => fromF k s d i) (fromB s d i)
  | 0, _ => Ev.val rfl
  | d + 1, i => by
    simp only [fromF]
    unfold fromB
    refine Ev.bindk (sizes_ev (s.extract i s.size ++ s.extract 0 i) (by rw [ByteArray.size_append, ByteArray.size_extract, ByteArray.size_extract]; omega) (fun x => ?_) (s.size - 1) 1) ?_
    · rw [bytesOf_append, bytesOf_extract, bytesOf_extract, List.drop_zero, List.count_append]
      have h1 : (bytesOf s).take s.size = bytesOf s := by rw [← bytesOf_length, List.take_length]
      have h2 := congrArg (List.count x) (List.take_append_drop i (bytesOf s))
      rw [List.count_append] at h2
      have := hc x
      rw [h1]
      omega
    · by_cases h : sizesB (s.extract i s.size ++ s.extract 0 i) (s.size - 1) 1 = true
      · rw [if_pos h]
        exact Ev.pos h (Ev.val rfl)
      · rw [if_neg h]
        exact Ev.neg h (from_ev s hs hc d (i + 1))
def oneR (w : ByteArray) : Bool × Bool := if goodS w = true then (!(fromB w w.size 0), true) else (false, false)
theorem good_count {w : ByteArray} (h : goodS w = true) (x : Int) : (bytesOf w).count x ≤ 2 := by
  by_cases hx : x ∈ bytesOf w
  · have h1 : goodL (bytesOf w) = true := h
    unfold goodL at h1
    simp only [Bool.and_eq_true, List.all_eq_true] at h1
    have := h1.2 x hx
    simp at this
    omega
  · rw [List.count_eq_zero.2 hx]
    omega
theorem good_ascii {w : ByteArray} (h : goodS w = true) : asciiB w = true := by
  have h16 := good_size h
  unfold asciiB
  simp only [Bool.and_eq_true, decide_eq_true_eq, List.all_eq_true]
  refine ⟨by omega, fun x hx => ?_⟩
  have := good_letters (show goodL (bytesOf w) = true from h) x hx
  omega
theorem oneS_ev (w : ByteArray) : Ev (fun k => spec_IsOneLoop.f k w) (oneR w) := by
      unfold spec_IsOneLoop.f oneR
      refine Ev.bindk (loGood_ev w) ?_
      by_cases h : goodS w = true
      · refine Ev.pos h (Ev.pos (good_ascii h) ?_)
        rw [if_pos h]
        exact Ev.bindk (from_ev w (good_size h) (good_count h) w.size 0) (Ev.val rfl)
      · refine Ev.neg h ?_
        rw [if_neg h]
        exact Ev.val rfl
theorem oneI_ev (w : ByteArray) : Ev (fun k => impl_IsOneLoop.f k w) (oneR w) := by
      unfold impl_IsOneLoop.f oneR
      refine Ev.bindk (isLoop_ev w) ?_
      by_cases h : goodS w = true
      · refine Ev.pos h (Ev.pos (good_ascii h) ?_)
        rw [if_pos h]
        exact Ev.val rfl
      · refine Ev.neg h ?_
        rw [if_neg h]
        exact Ev.val rfl
def backR (w : ByteArray) : ByteArray × Bool := if goodS w = true then (anewS (backS w), true) else (⟨#[]⟩, false)
theorem backS_ev (w : ByteArray) : Ev (fun k => spec_BackLoop.f k w) (backR w) := by
      unfold spec_BackLoop.f backR
      refine Ev.bindk (loGood_ev w) ?_
      by_cases h : goodS w = true
      · have h16 := good_size h
        refine Ev.pos h ?_
        rw [if_pos h]
        exact Ev.bindk (loBack_ev w h16) (Ev.val rfl)
      · refine Ev.neg h ?_
        rw [if_neg h]
        exact Ev.val rfl
theorem backI_ev (w : ByteArray) : Ev (fun k => impl_BackLoop.f k w) (backR w) := by
      unfold impl_BackLoop.f backR
      refine Ev.bindk (isLoop_ev w) ?_
      by_cases h : goodS w = true
      · have h16 := good_size h
        have hz := back_size w
        refine Ev.pos h ?_
        rw [if_pos h]
        exact Ev.bindc (backward_eq w (by omega)) (Ev.bindk (named_ev _ (by omega)) (Ev.val rfl))
      · refine Ev.neg h ?_
        rw [if_neg h]
        exact Ev.val rfl
def turnR (w : ByteArray) (by_ : Int) : ByteArray × Bool :=
  if goodS w = true ∧ 0 ≤ by_ ∧ by_ ≤ mx 0 ((w.size : Int) - 1) then (anewS (w.extract by_.toNat w.size ++ w.extract 0 by_.toNat), true) else (⟨#[]⟩, false)
theorem turn_size (w : ByteArray) (n : Nat) (h : n ≤ w.size) : (w.extract n w.size ++ w.extract 0 n).size = w.size ∧ (w.extract n w.size).size + (w.extract 0 n).size = w.size := by
  rw [ByteArray.size_append, ByteArray.size_extract, ByteArray.size_extract]
  omega
theorem mx0 (x : Int) : mx 0 x = if 0 < x then x else 0 := rfl
theorem turnS_ev (w : ByteArray) (q : Int) : Ev (fun k => spec_TurnLoop.f k w q) (turnR w q) := by
      unfold spec_TurnLoop.f turnR
      refine Ev.bindk (loGood_ev w) ?_
      by_cases h : goodS w = true
      · have h16 := good_size h
        refine Ev.pos h (Ev.bindc (a := mx 0 ((w.size : Int) - 1)) ?_ (Ev.bindc (l1In_eq _ _ _) ?_))
        · rw [w64 (by omega) (by omega), mx0]
          unfold spec_l1Most.f
          split <;> split <;> first | rfl | omega | (congr 1; omega)
        · by_cases hq : 0 ≤ q ∧ q ≤ mx 0 ((w.size : Int) - 1)
          · rw [if_pos ⟨h, hq⟩]
            have hq2 : q ≤ (w.size : Int) := by
              have := hq.2
              rw [mx0] at this
              split at this <;> omega
            have ht := turn_size w q.toNat (by omega)
            exact Ev.pos (by simp [inB]; exact hq) (Ev.pos hq.1 (Ev.pos hq2 (Ev.pos (by omega) (Ev.bindk (loAnew_ev _ (by omega)) (Ev.val rfl)))))
          · rw [if_neg (fun e => hq e.2)]
            exact Ev.neg (by simp [inB]; omega) (Ev.val rfl)
      · rw [if_neg (fun e => h e.1)]
        exact Ev.neg h (Ev.val rfl)
theorem turnI_ev (w : ByteArray) (q : Int) : Ev (fun k => impl_TurnLoop.f k w q) (turnR w q) := by
      unfold impl_TurnLoop.f turnR
      refine Ev.bindk (isLoop_ev w) ?_
      by_cases h : goodS w = true
      · have h16 := good_size h
        refine Ev.pos h (Ev.bindc (within_eq _ _ _) ?_)
        rw [w64 (x := (w.size : Int) - 1) (by omega) (by omega)]
        by_cases hq : 0 ≤ q ∧ q ≤ mx 0 ((w.size : Int) - 1)
        · rw [if_pos ⟨h, hq⟩]
          have hq2 : q ≤ (w.size : Int) := by
            have := hq.2
            rw [mx0] at this
            split at this <;> omega
          have ht := turn_size w q.toNat (by omega)
          exact Ev.pos (by simp [inB]; exact hq) (Ev.pos hq.1 (Ev.pos hq2 (Ev.pos (by omega) (Ev.bindk (named_ev _ (by omega)) (Ev.val rfl)))))
        · rw [if_neg (fun e => hq e.2)]
          exact Ev.neg (by simp [inB]; omega) (Ev.val rfl)
      · rw [if_neg (fun e => h e.1)]
        exact Ev.neg h (Ev.val rfl)
theorem index_one (x : UInt8) : ∀ (p q : List UInt8), x ∉ p → Lib.index (p ++ x :: q) [x] = (p.length : Int)
  | [], q, _ => by simp [Lib.index]
  | b :: p, q, h => by
    have hb : (x == b) = false := by
      cases e : x == b with
      | false => rfl
      | true => exact absurd (List.mem_cons.2 (.inl (beq_iff_eq.1 e))) h
    have ih := index_one x p q (fun e => h (List.mem_cons_of_mem _ e))
    rw [List.cons_append, Lib.index, ih]
    have hne : ((p.length : Int) == -1) = false := beq_eq_false_iff_ne.2 (by omega)
    simp [List.isPrefixOf, hb, hne]
theorem index_none (x : UInt8) : ∀ (s : List UInt8), x ∉ s → Lib.index s [x] = -1
  | [], _ => by simp [Lib.index]
  | b :: s, h => by
    have hb : (x == b) = false := by
      cases e : x == b with
      | false => rfl
      | true => exact absurd (List.mem_cons.2 (.inl (beq_iff_eq.1 e))) h
    rw [Lib.index, index_none x s (fun e => h (List.mem_cons_of_mem _ e))]
    simp [List.isPrefixOf, hb]
theorem filter_none (x : UInt8) (s : List UInt8) (h : x ∉ s) : s.filter (fun b => b != x) = s := List.filter_eq_self.2 (fun b hb => bne_iff_ne.2 (fun e => h (e ▸ hb)))
theorem replaceK_one (x : UInt8) : ∀ (k : Nat) (s : List UInt8), s.count x ≤ k → Lib.replaceK [x] [] k s = s.filter (fun b => b != x)
  | 0, s, h => by
    rw [Lib.replaceK, filter_none x s (List.count_eq_zero.1 (by omega))]
  | k + 1, s, h => by
    by_cases hm : x ∈ s
    · have hp : ∃ p q, s = p ++ x :: q ∧ x ∉ p := by
        induction s with
        | nil => simp at hm
        | cons b s ih =>
          by_cases e : b = x
          · subst e
            exact ⟨[], s, rfl, by simp⟩
          · have hm2 : x ∈ s := by
              rcases List.mem_cons.1 hm with e2 | e2
              · exact absurd e2.symm e
              · exact e2
            have hc : (b :: s).count x = s.count x := List.count_cons_of_ne (by simpa using e)
            obtain ⟨p, q, e1, e2⟩ := ih (by omega) hm2
            exact ⟨b :: p, q, by rw [e1]; rfl, by simp [e2, Ne.symm e]⟩
      obtain ⟨p, q, rfl, hnp⟩ := hp
      rw [List.count_append, List.count_cons_self] at h
      rw [Lib.replaceK_hit [x] [] k _ p.length (index_one x p q hnp), List.take_left, show p.length + ([x] : List UInt8).length = (p ++ [x]).length by simp, show p ++ x :: q = (p ++ [x]) ++ q by simp, List.drop_left, replaceK_one x k q (by omega)]
      simp [filter_none x p hnp]
    · rw [Lib.replaceK, index_none x s hm]
      simp [filter_none x s hm]
theorem dropS_eq (w a : ByteArray) (x : Int) (h : bytesOf a = [x]) : bytesOf (dropS w a) = (bytesOf w).filter (fun y => y != x) := by
  have ha : a.data.toList = [x.toNat.toUInt8] := by
    have h2 := h
    unfold bytesOf at h2
    match hl : a.data.toList, h2 with
    | [b], h2 =>
      simp only [List.map_cons, List.map_nil, List.cons.injEq, and_true] at h2
      rw [← h2]
      simp
    | [], h2 => simp at h2
    | b :: c :: t, h2 => simp at h2
  have hx := bytesOf_byte a x (by rw [h]; simp)
  have hr : Lib.replaceAll w.data.toList a.data.toList [] = w.data.toList.filter (fun b => b != x.toNat.toUInt8) := by
    rw [ha]
    unfold Lib.replaceAll Lib.replace Lib.replaceNum
    rw [if_neg (by simp), if_pos (.inl (by decide)), Lib.count_one]
    exact replaceK_one _ _ _ (Nat.le_refl _)
  unfold dropS
  rw [hr]
  unfold bytesOf
  simp only [List.filter_map]
  congr 1
  refine List.filter_congr fun b _ => ?_
  have hb := b.toNat_lt
  rw [Bool.eq_iff_iff]
  simp only [bne_iff_ne, ne_eq, Function.comp]
  constructor
  · intro hne e
    apply hne
    rw [← e]
    simp
  · intro hne e
    apply hne
    rw [e]
    simp
    omega
theorem drop_l0 (w a : ByteArray) (x : Int) (h : bytesOf a = [x]) (hw : w.size ≤ 16) : ∀ (d i : Nat) (out : ByteArray), i + d = w.size → out.size ≤ i → Ev (fun k => spec_DropCrossing.l0 k w a out (i : Int)) (anewS (strOfNums (bytesOf out ++ ((bytesOf w).drop i).filter (fun y => y != x))), true)
  | 0, i, out, hd, ho => by
    have hl := bytesOf_length w
    refine Ev.step (fun k => by rw [spec_DropCrossing.l0]) ?_
    rw [List.drop_of_length_le (by omega), List.filter_nil, List.append_nil, strOf_bytesOf]
    exact Ev.neg (by omega) (Ev.bindk (loAnew_ev out (by omega)) (Ev.val rfl))
  | d + 1, i, out, hd, ho => by
    have hl := bytesOf_length w
    have hi : i < (bytesOf w).length := by omega
    have hla := bytesOf_length a
    rw [h] at hla
    have hgx : bt a 0 = x := by
      have e := bytesOf_get a 0 (by rw [h]; simp)
      simp only [h] at e
      exact e
    have hgi := bytesOf_get w i hi
    have hone := bytesOf_one w i hi
    have hes : (w.extract i (i + 1)).size = 1 := by rw [← bytesOf_length, hone]; rfl
    refine Ev.step (fun k => by rw [spec_DropCrossing.l0]) ?_
    rw [w64 (x := (i : Int) + 1) (by omega) (by omega), hgi, hgx, List.drop_eq_getElem_cons hi, Int.toNat_natCast, show ((i : Int) + 1).toNat = i + 1 by omega]
    have ih := fun out' => drop_l0 w a x h hw d (i + 1) out' (by omega)
    rw [show (((i + 1 : Nat)) : Int) = (i : Int) + 1 by omega] at ih
    refine Ev.pos (by omega) (Ev.pos (by omega) (Ev.pos (by simp at hla; omega) ?_))
    by_cases e : (bytesOf w)[i] = x
    · rw [List.filter_cons_of_neg (by simpa using e)]
      exact Ev.pos e (ih out (by omega))
    · rw [List.filter_cons_of_pos (by simpa using e)]
      refine Ev.neg e (Ev.pos (by omega) (Ev.pos (by omega) (Ev.pos (by omega) ?_)))
      have e2 := ih (out ++ w.extract i (i + 1)) (by rw [ByteArray.size_append, hes]; omega)
      rw [bytesOf_append, hone, List.append_assoc] at e2
      exact e2
def dropR (w a : ByteArray) : ByteArray × Bool := if goodS w = true ∧ letB w a = true then (anewS (dropS w a), true) else (⟨#[]⟩, false)
theorem dropS_ev (w a : ByteArray) : Ev (fun k => spec_DropCrossing.f k w a) (dropR w a) := by
        unfold spec_DropCrossing.f dropR
        refine Ev.bindk (loGood_ev w) ?_
        by_cases h : goodS w = true
        · have h16 := good_size h
          refine Ev.pos h (Ev.bindc (loLetter_eq w a h16) (Ev.step (fun k => by rw [spec_DropCrossing.j0]) ?_))
          by_cases h2 : letB w a = true
          · rw [if_pos ⟨h, h2⟩]
            have hsz : a.size = 1 := by
              unfold letB at h2
              simp only [Bool.and_eq_true, decide_eq_true_eq] at h2
              exact h2.1
            have hone := one_bytes hsz
            refine Ev.neg (by rw [h2]; simp) ?_
            have e := drop_l0 w a (bt a 0) hone h16 w.size 0 ⟨#[]⟩ (by omega) (by simp [ByteArray.size])
            rw [List.drop_zero, bytesOf_nil, List.nil_append, ← dropS_eq w a (bt a 0) hone, strOf_bytesOf] at e
            exact e
          · rw [if_neg (fun e => h2 e.2)]
            refine Ev.pos ?_ (Ev.val rfl)
            cases h3 : letB w a with
            | true => exact absurd h3 h2
            | false => rfl
        · rw [if_neg (fun e => h e.1)]
          exact Ev.neg h (Ev.step (fun k => by rw [spec_DropCrossing.j0]) (Ev.pos rfl (Ev.val rfl)))
theorem dropI_ev (w a : ByteArray) : Ev (fun k => impl_DropCrossing.f k w a) (dropR w a) := by
        unfold impl_DropCrossing.f dropR
        refine Ev.bindk (isLetter_ev w a) ?_
        by_cases h : goodS w = true ∧ letB w a = true
        · have h16 := good_size h.1
          have hsz : a.size = 1 := by
            have h2 := h.2
            unfold letB at h2
            simp only [Bool.and_eq_true, decide_eq_true_eq] at h2
            exact h2.1
          have hds : (dropS w a).size ≤ 16 := by
            rw [← bytesOf_length, dropS_eq w a (bt a 0) (one_bytes hsz)]
            have := List.length_filter_le (fun y => y != bt a 0) (bytesOf w)
            have := bytesOf_length w
            omega
          rw [if_pos h]
          exact Ev.pos (by rw [h.1, h.2]; rfl) (Ev.pos ⟨by omega, hsz⟩ (Ev.bindk (named_ev _ (by omega)) (Ev.val rfl)))
        · rw [if_neg h]
          refine Ev.neg ?_ (Ev.val rfl)
          intro e
          rw [Bool.and_eq_true] at e
          exact h e
def crossR (w : ByteArray) : Int × Bool := if goodS w = true then (wrap64 ((w.size : Int) / 2), true) else (0, false)
theorem crossS_ev (w : ByteArray) : Ev (fun k => spec_CountLoopCrossings.f k w) (crossR w) := by
      unfold spec_CountLoopCrossings.f crossR
      refine Ev.bindk (loGood_ev w) ?_
      by_cases h : goodS w = true
      · refine Ev.pos h ?_
        rw [if_pos h]
        exact Ev.val rfl
      · refine Ev.neg h ?_
        rw [if_neg h]
        exact Ev.val rfl
theorem crossI_ev (w : ByteArray) : Ev (fun k => impl_CountLoopCrossings.f k w) (crossR w) := by
      unfold impl_CountLoopCrossings.f crossR
      refine Ev.bindk (isLoop_ev w) ?_
      by_cases h : goodS w = true
      · refine Ev.pos h ?_
        rw [if_pos h]
        exact Ev.val rfl
      · refine Ev.neg h ?_
        rw [if_neg h]
        exact Ev.val rfl
def evenR (w : ByteArray) : Bool × Bool := if goodS w = true then (evR (bytesOf w) (w.size / 2) (w.size / 2) 97, true) else (false, false)
theorem evenS_ev (w : ByteArray) : Ev (fun k => spec_IsEvenLoop.f k w) (evenR w) := by
      unfold spec_IsEvenLoop.f
      refine Ev.bindk (loGood_ev w) ?_
      by_cases h : goodS w = true
      · obtain ⟨m, hm⟩ := loop_of h
        have hl := bytesOf_length w
        have hlen := hm.len
        refine Ev.pos h ?_
        rw [evenR, if_pos h, show w.size / 2 = m by omega]
        exact Ev.bindk (loEven_ev hm) (Ev.val rfl)
      · refine Ev.neg h (Ev.val ?_)
        rw [evenR, if_neg h]
theorem evenI_ev (w : ByteArray) : Ev (fun k => impl_IsEvenLoop.f k w) (evenR w) := by
      unfold impl_IsEvenLoop.f
      refine Ev.bindk (isLoop_ev w) ?_
      by_cases h : goodS w = true
      · obtain ⟨m, hm⟩ := loop_of h
        have hl := bytesOf_length w
        have hlen := hm.len
        refine Ev.pos h ?_
        rw [evenR, if_pos h, show w.size / 2 = m by omega]
        exact Ev.bindc (isEven_eq hm) (Ev.val rfl)
      · refine Ev.neg h (Ev.val ?_)
        rw [evenR, if_neg h]
def lacR (w a b : ByteArray) : Bool × Bool := if goodS w = true ∧ letB w a = true ∧ letB w b = true then (lacedL (bytesOf w) (bt a 0) (bt b 0), true) else (false, false)
theorem let_at {w a : ByteArray} {m : Nat} (h : M.Loop (bytesOf w) m) (hl : letB w a = true) : a.size = 1 ∧ 97 ≤ bt a 0 ∧ bt a 0 < 97 + (m : Int) := by
  have h1 := bytesOf_length w
  have h2 := h.len
  unfold letB at hl
  simp only [Bool.and_eq_true, decide_eq_true_eq] at hl
  rw [show w.size / 2 = m by omega] at hl
  exact hl
theorem lacS_ev (w a b : ByteArray) : Ev (fun k => spec_AreInterlaced.f k w a b) (lacR w a b) := by
    unfold spec_AreInterlaced.f
    refine Ev.bindk (loGood_ev w) ?_
    by_cases h : goodS w = true
    · refine Ev.pos h (Ev.bindc (loLetter_eq w a (good_size h)) ?_)
      by_cases ha : letB w a = true
      · refine Ev.pos ha (Ev.bindc (loLetter_eq w b (good_size h)) ?_)
        by_cases hb : letB w b = true
        · obtain ⟨m, hm⟩ := loop_of h
          have h1 := let_at hm ha
          have h2 := let_at hm hb
          refine Ev.pos hb (Ev.pos (by omega) (Ev.pos (by omega) (Ev.bindk (loLaced_ev hm h1.2.1 h1.2.2) (Ev.val ?_))))
          rw [lacR, if_pos ⟨h, ha, hb⟩]
        · refine Ev.neg hb (Ev.val ?_)
          rw [lacR, if_neg (fun e => hb e.2.2)]
      · refine Ev.neg ha (Ev.val ?_)
        rw [lacR, if_neg (fun e => ha e.2.1)]
    · refine Ev.neg h (Ev.val ?_)
      rw [lacR, if_neg (fun e => h e.1)]
theorem lacI_ev (w a b : ByteArray) : Ev (fun k => impl_AreInterlaced.f k w a b) (lacR w a b) := by
    unfold impl_AreInterlaced.f
    refine Ev.bindk (isLetter_ev w a) ?_
    by_cases ha : (goodS w && letB w a) = true
    · refine Ev.pos ha (Ev.bindk (isLetter_ev w b) ?_)
      rw [Bool.and_eq_true] at ha
      by_cases hb : (goodS w && letB w b) = true
      · refine Ev.pos hb ?_
        rw [Bool.and_eq_true] at hb
        obtain ⟨m, hm⟩ := loop_of ha.1
        have h1 := let_at hm ha.2
        have h2 := let_at hm hb.2
        rw [show lacR w a b = (lacedL (bytesOf w) (bt a 0) (bt b 0), true) from if_pos ⟨ha.1, ha.2, hb.2⟩]
        by_cases e : a.toList = b.toList
        · refine Ev.pos e (Ev.val ?_)
          obtain rfl := toList_inj.1 e
          rw [laced_self (hm.cnt h1.2.1 h1.2.2)]
        · exact Ev.neg e (Ev.pos (by omega) (Ev.pos (by omega) (Ev.bindc (interlaced_eq hm h1.2.1 h1.2.2 h2.2.1 h2.2.2) (Ev.val rfl))))
      · refine Ev.neg hb (Ev.val ?_)
        rw [lacR, if_neg (fun e => hb (by rw [Bool.and_eq_true]; exact ⟨e.1, e.2.2⟩))]
    · refine Ev.neg ha (Ev.val ?_)
      rw [lacR, if_neg (fun e => ha (by rw [Bool.and_eq_true]; exact ⟨e.1, e.2.1⟩))]
def withR (w a : ByteArray) : ByteArray × Bool := if goodS w = true ∧ letB w a = true then (strOfNums (withL (bytesOf w) (w.size / 2) (bt a 0)), true) else (⟨#[]⟩, false)
theorem let_at2 {w a : ByteArray} {m : Nat} (h : M.Loop (bytesOf w) m) (hl : letB w a = true) : w.size / 2 = m ∧ a.size = 1 ∧ 97 ≤ bt a 0 ∧ bt a 0 < 97 + (m : Int) := by
  have h1 := bytesOf_length w
  have h2 := h.len
  unfold letB at hl
  simp only [Bool.and_eq_true, decide_eq_true_eq] at hl
  rw [show w.size / 2 = m by omega] at hl
  exact ⟨by omega, hl⟩
theorem withS_ev (w a : ByteArray) : Ev (fun k => spec_InterlacedWith.f k w a) (withR w a) := by
    unfold spec_InterlacedWith.f
    refine Ev.bindk (loGood_ev w) ?_
    by_cases h : goodS w = true
    · refine Ev.pos h (Ev.bindc (loLetter_eq w a (good_size h)) ?_)
      by_cases ha : letB w a = true
      · obtain ⟨m, hm⟩ := loop_of h
        have h1 := let_at2 hm ha
        refine Ev.pos ha (Ev.pos (by omega) ?_)
        rw [withR, if_pos ⟨h, ha⟩, h1.1]
        exact Ev.bindk (loWith_ev hm h1.2.2.1 h1.2.2.2) (Ev.val rfl)
      · refine Ev.neg ha (Ev.val ?_)
        rw [withR, if_neg (fun e => ha e.2)]
    · refine Ev.neg h (Ev.val ?_)
      rw [withR, if_neg (fun e => h e.1)]
theorem withI_ev (w a : ByteArray) : Ev (fun k => impl_InterlacedWith.f k w a) (withR w a) := by
    unfold impl_InterlacedWith.f
    refine Ev.bindk (isLetter_ev w a) ?_
    by_cases ha : (goodS w && letB w a) = true
    · refine Ev.pos ha ?_
      rw [Bool.and_eq_true] at ha
      obtain ⟨m, hm⟩ := loop_of ha.1
      have h1 := let_at2 hm ha.2
      rw [show withR w a = (strOfNums (withL (bytesOf w) (w.size / 2) (bt a 0)), true) from if_pos ⟨ha.1, ha.2⟩, h1.1]
      exact Ev.pos (by omega) (Ev.bindc (interlacedWith_eq hm h1.2.2.1 h1.2.2.2).2 (Ev.val rfl))
    · refine Ev.neg ha (Ev.val ?_)
      rw [withR, if_neg (fun e => ha (by rw [Bool.and_eq_true]; exact ⟨e.1, e.2⟩))]
theorem drawS_ev (w : ByteArray) : Ev (fun k => spec_CanBeDrawn.f k w) (drawR w) := by
      unfold spec_CanBeDrawn.f
      refine Ev.bindk (loGood_ev w) ?_
      by_cases h : goodS w = true
      · obtain ⟨m, hm⟩ := loop_of h
        have hl := bytesOf_length w
        have hlen := hm.len
        refine Ev.pos h ?_
        rw [drawR, if_pos h, show w.size / 2 = m by omega]
        exact Ev.bindk (loDrawn_ev hm) (Ev.val rfl)
      · refine Ev.neg h (Ev.val ?_)
        rw [drawR, if_neg h]
theorem firstS_ev (w : ByteArray) : Ev (fun k => spec_FirstLoop.f k w) (firstR w) := by
      unfold spec_FirstLoop.f firstR
      refine Ev.bindk (loGood_ev w) ?_
      by_cases h : goodS w = true
      · refine Ev.pos h ?_
        rw [if_pos h]
        exact Ev.bindk (loFirst_ev w h) (Ev.val rfl)
      · refine Ev.neg h ?_
        rw [if_neg h]
        exact Ev.val rfl
theorem isS_ev (w : ByteArray) : Ev (fun k => spec_IsLoop.f k w) (goodS w) := by
  unfold spec_IsLoop.f
  exact Ev.bindk (loGood_ev w) (Ev.val rfl)
end Go.Proofs.YtcgoaipbfnhjhaaGreatDoor.M

/- Whether a loop can be drawn does not change when its letters are named otherwise, and when a letter is taken out that is interlaced with none. Plain lists, no program. -/
namespace Go.Proofs.YtcgoaipbfnhjhaaGreatDoor.M
set_option linter.unusedVariables false
set_option linter.unusedSimpArgs false

theorem nodup_short : ∀ (n : Nat) (l : List Nat), l.Nodup → (∀ x ∈ l, x < n) → l.length ≤ n
  | 0, l, _, h => by
    cases l with
    | nil => simp
    | cons x l => exact absurd (h x (List.mem_cons_self ..)) (by omega)
  | n + 1, l, hn, h => by
    have h1 := nodup_short n (l.erase n) (hn.erase n) (fun x hx => by
      have hm := List.mem_of_mem_erase hx
      have := h x hm
      have hne : x ≠ n := fun e => by
        subst e
        rw [hn.mem_erase_iff] at hx
        exact hx.1 rfl
      omega)
    have := List.length_erase (a := n) (l := l)
    split at this <;> omega
theorem nodup_all (n : Nat) (l : List Nat) (hn : l.Nodup) (h : ∀ x ∈ l, x < n) (hl : l.length = n) : ∀ x, x < n → x ∈ l := fun x hx => by
  by_cases hm : x ∈ l
  · exact hm
  · have := nodup_short n (x :: l) (List.nodup_cons.2 ⟨hm, hn⟩) (fun y hy => by
      rcases List.mem_cons.1 hy with e | e
      · omega
      · exact h y e)
    simp at this
    omega
theorem perm_range (n : Nat) (l : List Nat) (hn : l.Nodup) (h : ∀ x ∈ l, x < n) (hl : l.length = n) : l.Perm (List.range n) := by
  rw [List.perm_iff_count]
  intro x
  by_cases hx : x < n
  · rw [hn.count, if_pos (nodup_all n l hn h hl x hx), List.nodup_range.count, if_pos (List.mem_range.2 hx)]
  · rw [List.count_eq_zero.2 (fun hm => hx (h x hm)), List.count_eq_zero.2 (fun hm => hx (List.mem_range.1 hm))]
/-- A naming of the first n numbers by themselves. -/
structure Ren (n : Nat) (f : Nat → Nat) : Prop where
  lt : ∀ a, a < n → f a < n
  inj : ∀ a b, a < n → b < n → f a = f b → a = b
theorem Ren.perm {n : Nat} {f : Nat → Nat} (h : Ren n f) : ((List.range n).map f).Perm (List.range n) := by
  refine perm_range n _ ?_ (fun x hx => ?_) (by simp)
  · refine List.pairwise_map.2 (List.nodup_range.imp_of_mem ?_)
    intro a b ha hb hne e
    exact hne (h.inj a b (List.mem_range.1 ha) (List.mem_range.1 hb) e)
  · obtain ⟨a, ha, rfl⟩ := List.mem_map.1 hx
    exact h.lt a (List.mem_range.1 ha)
theorem Ren.count {n : Nat} {f : Nat → Nat} (h : Ren n f) (p : Nat → Bool) : (List.range n).countP (fun c => p (f c)) = (List.range n).countP p := by
  have e := h.perm.countP_eq p
  rw [List.countP_map] at e
  exact e
theorem Ren.onto {n : Nat} {f : Nat → Nat} (h : Ren n f) : ∀ x, x < n → ∃ a, a < n ∧ f a = x := fun x hx => by
  have := (h.perm.mem_iff (a := x)).2 (List.mem_range.2 hx)
  obtain ⟨a, ha, e⟩ := List.mem_map.1 this
  exact ⟨a, List.mem_range.1 ha, e⟩
theorem drawnM_ren {n : Nat} {f : Nat → Nat} (h : Ren n f) {E : Nat → Nat → Bool} (hd : DrawnM n E) : DrawnM n (fun a b => E (f a) (f b)) := by
  obtain ⟨h1, h2, s, h3, h4⟩ := hd
  have hdeg : ∀ a, degM (fun a b => E (f a) (f b)) n a = degM E n (f a) := fun a => h.count (fun c => E (f a) c)
  have hbo : ∀ a b, bothM (fun a b => E (f a) (f b)) n a b = bothM E n (f a) (f b) := fun a b => h.count (fun c => E (f a) c && E (f b) c)
  refine ⟨fun a ha => ?_, fun a b ha hb hn he => ?_, fun j => s (f j), fun j => h3 _, fun a b ha hb hn he => ?_⟩
  · rw [hdeg]; exact h1 _ (h.lt a ha)
  · rw [hbo]; exact h2 _ _ (h.lt a ha) (h.lt b hb) (fun e => hn (h.inj a b ha hb e)) he
  · have e := h4 _ _ (h.lt a ha) (h.lt b hb) (fun e => hn (h.inj a b ha hb e)) he
    exact e.trans (congrArg (s (f a) * ·) (sg_eq (by rw [hbo])))
/-- One table told with other names. -/
theorem drawnM_iff_ren {n : Nat} {f g : Nat → Nat} (hf : Ren n f) (hg : Ren n g) (hfg : ∀ a, a < n → f (g a) = a) {E F : Nat → Nat → Bool} (he : ∀ a b, a < n → b < n → F a b = E (f a) (f b)) : DrawnM n F ↔ DrawnM n E := by
  constructor
  · intro h
    refine drawnM_of (fun a b ha hb => ?_) (drawnM_ren hg h)
    show F (g a) (g b) = E a b
    rw [he _ _ (hg.lt a ha) (hg.lt b hb), hfg a ha, hfg b hb]
  · intro h
    exact drawnM_of (fun a b ha hb => (he a b ha hb).symm) (drawnM_ren hf h)
end Go.Proofs.YtcgoaipbfnhjhaaGreatDoor.M

/- Which letters are interlaced does not change when a loop is turned, told back, named anew, or loses another letter. Plain lists, no program. -/
namespace Go.Proofs.YtcgoaipbfnhjhaaGreatDoor.M
set_option linter.unusedVariables false
set_option linter.unusedSimpArgs false

theorem laced_parts {a b : Int} {p q r : List Int} (h1 : a ∉ p) (h2 : a ∉ q) : lacedL (p ++ a :: (q ++ a :: r)) a b = (q.count b == 1) := by
  unfold lacedL
  rw [mid_parts h1 h2]
theorem laced_rot1 {x a b : Int} {t : List Int} (ha : (x :: t).count a = 2) (hb : (x :: t).count b = 2) (hab : a ≠ b) : lacedL (t ++ [x]) a b = lacedL (x :: t) a b := by
  have hne : (a == b) = false := by simpa using hab
  by_cases e : x = a
  · subst e
    rw [List.count_cons_self] at ha
    have hm : x ∈ t := List.count_pos_iff.1 (by omega)
    obtain ⟨q, r, rfl⟩ := List.append_of_mem hm
    rw [List.count_append, List.count_cons_self] at ha
    have hq : x ∉ q := List.count_eq_zero.1 (by omega)
    have hr : x ∉ r := List.count_eq_zero.1 (by omega)
    rw [List.count_cons, List.count_append, List.count_cons, hne] at hb
    simp only [Bool.false_eq_true, if_false, Nat.add_zero] at hb
    rw [show (q ++ x :: r) ++ [x] = q ++ x :: (r ++ x :: []) by simp, laced_parts hq hr]
    rw [show x :: (q ++ x :: r) = [] ++ x :: (q ++ x :: r) from rfl, laced_parts (by simp) hq, Bool.eq_iff_iff]
    simp
    omega
  · obtain ⟨p, q, r, e2, n1, n2, n3⟩ := two_parts a (x :: t) ha
    cases p with
    | nil =>
      rw [List.nil_append, List.cons.injEq] at e2
      exact absurd e2.1 e
    | cons y p =>
      rw [List.cons_append, List.cons.injEq] at e2
      obtain ⟨rfl, rfl⟩ := e2
      rw [show x :: (p ++ a :: (q ++ a :: r)) = (x :: p) ++ a :: (q ++ a :: r) from rfl, laced_parts n1 n2]
      rw [show (p ++ a :: (q ++ a :: r)) ++ [x] = p ++ a :: (q ++ a :: (r ++ [x])) by simp, laced_parts (fun h => n1 (List.mem_cons_of_mem _ h)) n2]
theorem laced_rot {a b : Int} (hab : a ≠ b) : ∀ (u v : List Int), (u ++ v).count a = 2 → (u ++ v).count b = 2 → lacedL (v ++ u) a b = lacedL (u ++ v) a b
  | [], v, _, _ => by rw [List.append_nil, List.nil_append]
  | x :: u, v, ha, hb => by
    have e1 := laced_rot1 (x := x) (t := u ++ v) (a := a) (b := b) ha hb hab
    have ha2 : (u ++ (v ++ [x])).count a = 2 := by
      rw [← ha]
      simp only [List.count_append, List.count_cons, List.cons_append, List.count_nil]
      omega
    have hb2 : (u ++ (v ++ [x])).count b = 2 := by
      rw [← hb]
      simp only [List.count_append, List.count_cons, List.cons_append, List.count_nil]
      omega
    have e2 := laced_rot hab u (v ++ [x]) ha2 hb2
    rw [show v ++ x :: u = (v ++ [x]) ++ u by simp, e2, show u ++ (v ++ [x]) = (u ++ v) ++ [x] by simp, e1]
    rfl
theorem laced_rev {a b : Int} {w : List Int} (ha : w.count a = 2) : lacedL w.reverse a b = lacedL w a b := by
  obtain ⟨p, q, r, e, n1, n2, n3⟩ := two_parts a w ha
  rw [e, show (p ++ a :: (q ++ a :: r)).reverse = r.reverse ++ a :: (q.reverse ++ a :: p.reverse) by simp, laced_parts (by simpa using n3) (by simpa using n2), laced_parts n1 n2, List.count_reverse]
theorem count_inj (f : Int → Int) (x : Int) : ∀ (l : List Int), (∀ y ∈ l, f y = f x → y = x) → (l.map f).count (f x) = l.count x
  | [], _ => rfl
  | y :: l, h => by
    rw [List.map_cons, List.count_cons, List.count_cons, count_inj f x l (fun z hz => h z (List.mem_cons_of_mem _ hz))]
    by_cases e : y = x
    · subst e; simp
    · rw [show (y == x) = false by simpa using e, show (f y == f x) = false by simpa using fun e2 => e (h y (List.mem_cons_self ..) e2)]
theorem laced_map (f : Int → Int) {a b : Int} {w : List Int} (ha : w.count a = 2) (hf : ∀ x ∈ w, ∀ y ∈ w, f x = f y → x = y) (hb : b ∈ w) : lacedL (w.map f) (f a) (f b) = lacedL w a b := by
  obtain ⟨p, q, r, e, n1, n2, n3⟩ := two_parts a w ha
  have hm : a ∈ w := by rw [e]; simp
  have nm : ∀ l : List Int, (∀ x ∈ l, x ∈ w) → a ∉ l → f a ∉ l.map f := fun l hl hn h => by
    obtain ⟨y, hy, ey⟩ := List.mem_map.1 h
    exact hn (hf y (hl y hy) a hm ey ▸ hy)
  have hq : ∀ x ∈ q, x ∈ w := fun x hx => by rw [e]; simp [hx]
  rw [e, show (p ++ a :: (q ++ a :: r)).map f = p.map f ++ f a :: (q.map f ++ f a :: r.map f) by simp, laced_parts (nm p (fun x hx => by rw [e]; simp [hx]) n1) (nm q hq n2), laced_parts n1 n2, count_inj f b q (fun y hy h => hf y (hq y hy) b hb h)]
theorem laced_drop {a b c : Int} {w : List Int} (ha : w.count a = 2) (hac : a ≠ c) (hbc : b ≠ c) : lacedL (w.filter (fun x => x != c)) a b = lacedL w a b := by
  obtain ⟨p, q, r, e, n1, n2, n3⟩ := two_parts a w ha
  have hk : (a != c) = true := by simpa using hac
  have nm : ∀ l : List Int, a ∉ l → a ∉ l.filter (fun x => x != c) := fun l hn h => hn (List.mem_filter.1 h).1
  rw [e, show (p ++ a :: (q ++ a :: r)).filter (fun x => x != c) = p.filter (fun x => x != c) ++ a :: (q.filter (fun x => x != c) ++ a :: r.filter (fun x => x != c)) by simp [List.filter_append, List.filter_cons, hk], laced_parts (nm p n1) (nm q n2), laced_parts n1 n2, List.count_filter (by simpa using hbc)]
end Go.Proofs.YtcgoaipbfnhjhaaGreatDoor.M

/- Whether a loop can be drawn does not change when it is turned or told back. Plain lists, no program. -/
namespace Go.Proofs.YtcgoaipbfnhjhaaGreatDoor.M
set_option linter.unusedVariables false
set_option linter.unusedSimpArgs false

theorem newN_nodup : ∀ (w ns : List Int), ns.Nodup → (newN ns w).Nodup
  | [], _, h => h
  | x :: r, ns, h => by
    unfold newN
    by_cases hx : x ∈ ns
    · rw [if_pos hx]; exact newN_nodup r ns h
    · rw [if_neg hx]
      exact newN_nodup r _ (List.nodup_append.2 ⟨h, by simp, fun a ha b hb e => by
        obtain rfl : b = x := by simpa using hb
        exact hx (e ▸ ha)⟩)
theorem newN_back : ∀ (w ns : List Int) (x : Int), x ∈ newN ns w → x ∈ ns ∨ x ∈ w
  | [], _, x, h => .inl h
  | y :: r, ns, x, h => by
    unfold newN at h
    rcases newN_back r _ x h with h | h
    · by_cases hy : y ∈ ns
      · rw [if_pos hy] at h; exact .inl h
      · rw [if_neg hy] at h
        rcases List.mem_append.1 h with h | h
        · exact .inl h
        · obtain rfl : x = y := by simpa using h
          exact .inr (List.mem_cons_self ..)
    · exact .inr (List.mem_cons_of_mem _ h)
theorem abc_nodup (m : Nat) : (abcL m).Nodup := by
  unfold abcL
  refine List.pairwise_map.2 (List.nodup_range.imp ?_)
  intro a b hne e
  exact hne (by omega)
/-- Two texts with the same table up to names. -/
structure Like (w u : List Int) (m : Nat) : Prop where
  loop : Loop w m
  mem : ∀ x, x ∈ u ↔ x ∈ w
  cnt : ∀ x, u.count x = w.count x
  tab : ∀ a b : Int, a ∈ w → b ∈ w → a ≠ b → lacedL u a b = lacedL w a b
theorem like_rot {w p q : List Int} {m : Nat} (h : Loop w m) (e : w = p ++ q) : Like w (q ++ p) m := by
  refine ⟨h, fun x => by rw [e]; simp [or_comm], fun x => by rw [e]; simp [Nat.add_comm], fun a b ha hb hab => ?_⟩
  have h1 := h.cnt (h.lo a ha) (h.hi a ha)
  have h2 := h.cnt (h.lo b hb) (h.hi b hb)
  rw [e] at h1 h2 ⊢
  exact laced_rot hab p q h1 h2
theorem like_rev {w : List Int} {m : Nat} (h : Loop w m) : Like w w.reverse m :=
  ⟨h, fun x => by simp, fun x => by simp, fun a b ha hb hab => laced_rev (h.cnt (h.lo a ha) (h.hi a ha))⟩
/-- The names that letters get. -/
def namG (u : List Int) (x : Int) : Int := 97 + ((newN [] u).idxOf x : Int)
theorem namG_inj (u : List Int) : ∀ x ∈ u, ∀ y ∈ u, namG u x = namG u y → x = y := fun x hx y hy e => by
  have hx' := newN_mem u [] x hx
  have hy' := newN_mem u [] y hy
  unfold namG at e
  have e1 : (newN [] u).idxOf x = (newN [] u).idxOf y := by omega
  have h1 := List.getElem_idxOf (List.idxOf_lt_length_of_mem hx')
  have h2 := List.getElem_idxOf (List.idxOf_lt_length_of_mem hy')
  rw [← h1, ← h2]
  simp only [e1]
section
variable {w u : List Int} {m : Nat} (h : Like w u m)
include h
theorem like_two {x : Int} (hx : x ∈ w) : u.count x = 2 := by
  rw [h.cnt]
  exact h.loop.cnt (h.loop.lo x hx) (h.loop.hi x hx)
theorem like_len : u.length = 2 * m := by
  have hp : u.Perm w := List.perm_iff_count.2 h.cnt
  rw [hp.length_eq, h.loop.len]
theorem like_loop : Loop (anew [] u) m := by
  have hl := like_len h
  have hf := h.loop.few
  have hg : goodL (anew [] u) = true := by
    simp only [goodL, Bool.and_eq_true, decide_eq_true_eq, beq_iff_eq, List.all_eq_true]
    refine ⟨⟨by rw [anew_length]; omega, ?_⟩, fun x hx => ?_⟩
    · have e := anew_anew u u (fun _ hx => hx)
      rw [← anew_as_map u []] at e
      exact e
    · rw [anew_as_map] at hx ⊢
      obtain ⟨y, hy, rfl⟩ := List.mem_map.1 hx
      have := count_inj (namG u) y u (fun z hz e => namG_inj u z hz y hy e)
      unfold namG at this
      rw [this]
      exact like_two h ((h.mem y).1 hy)
  obtain ⟨k, hk⟩ := loop_of hg
  have e := hk.len
  rw [anew_length] at e
  obtain rfl : k = m := by omega
  exact hk
theorem names_len : (newN [] u).length = m := by
  have hp : (newN [] u).Perm (abcL m) := by
    rw [List.perm_ext_iff_of_nodup (newN_nodup u [] (by simp)) ((abc_nodup m))]
    intro x
    constructor
    · intro hx
      rcases newN_back u [] x hx with e | e
      · cases e
      · have hm := (h.mem x).1 e
        exact (mem_abc m x).2 ⟨h.loop.lo x hm, h.loop.hi x hm⟩
    · intro hx
      have hx2 := (mem_abc m x).1 hx
      have hc := h.loop.cnt hx2.1 hx2.2
      exact newN_mem u [] x ((h.mem x).2 (List.count_pos_iff.1 (by omega)))
  rw [hp.length_eq, abc_length]
def frG (u : List Int) (i : Nat) : Nat := ((newN [] u).getD i 0 - 97).toNat
def toG (u : List Int) (j : Nat) : Nat := (newN [] u).idxOf (97 + (j : Int))
theorem name_at {i : Nat} (hi : i < m) : ∃ x, (newN [] u).getD i 0 = x ∧ x ∈ w ∧ x ∈ u ∧ namG u x = 97 + (i : Int) ∧ (97 : Int) + (frG u i : Int) = x := by
  have hl := names_len h
  have hi2 : i < (newN [] u).length := by omega
  have e : (newN [] u).getD i 0 = (newN [] u)[i] := by simp [List.getD_eq_getElem?_getD, List.getElem?_eq_getElem hi2]
  have hu : (newN [] u)[i] ∈ u := by
    rcases newN_back u [] _ (List.getElem_mem hi2) with h | h
    · cases h
    · exact h
  have hw := (h.mem _).1 hu
  have hlo := h.loop.lo _ hw
  refine ⟨_, e, hw, hu, ?_, ?_⟩
  · unfold namG
    rw [(newN_nodup u [] (by simp)).idxOf_getElem i hi2]
  · unfold frG
    rw [e]
    omega
theorem name_of {j : Nat} (hj : j < m) : toG u j < m ∧ frG u (toG u j) = j := by
  have hl := names_len h
  have hc := h.loop.two j hj
  have hm : (97 + (j : Int)) ∈ newN [] u := newN_mem u [] _ ((h.mem _).2 (List.count_pos_iff.1 (by omega)))
  have hlt := List.idxOf_lt_length_of_mem hm
  have hg := List.getElem_idxOf hlt
  refine ⟨by unfold toG; omega, ?_⟩
  unfold frG toG
  rw [show (newN [] u).getD ((newN [] u).idxOf (97 + (j : Int))) 0 = 97 + (j : Int) by rw [List.getD_eq_getElem?_getD, List.getElem?_eq_getElem hlt, hg]; rfl]
  omega
theorem like_tab {i j : Nat} (hi : i < m) (hj : j < m) : tabM (anew [] u) i j = tabM w (frG u i) (frG u j) := by
  obtain ⟨x, _, xw, xu, ex, fx⟩ := name_at h hi
  obtain ⟨y, _, yw, yu, ey, fy⟩ := name_at h hj
  have hl := like_loop h
  unfold tabM
  rw [fx, fy]
  by_cases e : i = j
  · subst e
    rw [← ex] at ey
    obtain rfl := namG_inj u _ yu _ xu ey
    rw [laced_self (hl.two i hi), laced_self (h.loop.cnt (h.loop.lo _ xw) (h.loop.hi _ xw))]
  · have hne : x ≠ y := fun e2 => by
      subst e2
      rw [ex] at ey
      omega
    have e1 := laced_map (namG u) (a := x) (b := y) (like_two h xw) (namG_inj u) yu
    rw [ex, ey, h.tab x y xw yw hne] at e1
    rw [anew_as_map]
    exact e1
theorem like_drawn : DrawnM m (tabM (anew [] u)) ↔ DrawnM m (tabM w) := by
  have hfr : ∀ a, a < m → frG u a < m := fun a ha => by
    obtain ⟨x, _, xw, _, _, fx⟩ := name_at h ha
    have := h.loop.hi x xw
    omega
  refine drawnM_iff_ren (f := frG u) (g := toG u) ⟨hfr, fun a b ha hb e => ?_⟩ ⟨fun a ha => (name_of h ha).1, fun a b ha hb e => ?_⟩ (fun a ha => (name_of h ha).2) (fun a b ha hb => like_tab h ha hb)
  · obtain ⟨x, _, xw, xu, ex, fx⟩ := name_at h ha
    obtain ⟨y, _, yw, yu, ey, fy⟩ := name_at h hb
    rw [e, fy] at fx
    subst fx
    rw [ex] at ey
    omega
  · rw [← (name_of h ha).2, ← (name_of h hb).2, e]
end
end Go.Proofs.YtcgoaipbfnhjhaaGreatDoor.M

/- Texts that tell the same loop: turned, told back and named anew, over and over; a letter that is laced with none is taken out. Plain lists, no program. -/
namespace Go.Proofs.YtcgoaipbfnhjhaaGreatDoor.M
set_option linter.unusedVariables false
set_option linter.unusedSimpArgs false

/-- One text is another one, turned. -/
def Cyc (a b : List Int) : Prop := ∃ p q, a = p ++ q ∧ b = q ++ p
theorem Cyc.rfl' (a : List Int) : Cyc a a := ⟨[], a, rfl, by simp⟩
theorem Cyc.symm' {a b : List Int} : Cyc a b → Cyc b a := fun ⟨p, q, h1, h2⟩ => ⟨q, p, h2, h1⟩
theorem Cyc.trans' {a b c : List Int} : Cyc a b → Cyc b c → Cyc a c := by
  rintro ⟨p, q, rfl, rfl⟩ ⟨r, s, h, rfl⟩
  rcases List.append_eq_append_iff.1 h with ⟨t, rfl, rfl⟩ | ⟨t, rfl, rfl⟩
  · exact ⟨t, s ++ q, by simp, by simp⟩
  · exact ⟨p ++ r, t, by simp, by simp⟩
theorem Cyc.rev {a b : List Int} : Cyc a b → Cyc a.reverse b.reverse := by
  rintro ⟨p, q, rfl, rfl⟩
  exact ⟨q.reverse, p.reverse, by simp, by simp⟩
theorem Cyc.of_map {f : Int → Int} {l c : List Int} : Cyc (l.map f) c → ∃ d, Cyc l d ∧ c = d.map f := by
  rintro ⟨p, q, h, rfl⟩
  obtain ⟨p', q', rfl, rfl, rfl⟩ := List.map_eq_append_iff.1 h
  exact ⟨q' ++ p', ⟨p', q', rfl, rfl⟩, by simp⟩
theorem Cyc.map' {f : Int → Int} {l d : List Int} : Cyc l d → Cyc (l.map f) (d.map f) := by
  rintro ⟨p, q, rfl, rfl⟩
  exact ⟨p.map f, q.map f, by simp, by simp⟩
theorem Cyc.mem {a b : List Int} : Cyc a b → ∀ x, x ∈ b ↔ x ∈ a := by
  rintro ⟨p, q, rfl, rfl⟩ x
  simp [or_comm]
def Sim (a b : List Int) : Prop := Cyc a b ∨ Cyc a.reverse b
theorem Sim.rfl' (a : List Int) : Sim a a := .inl (Cyc.rfl' a)
theorem Sim.symm' {a b : List Int} : Sim a b → Sim b a
  | .inl h => .inl h.symm'
  | .inr h => .inr (by simpa using h.symm'.rev)
theorem Sim.trans' {a b c : List Int} : Sim a b → Sim b c → Sim a c
  | .inl h, .inl g => .inl (h.trans' g)
  | .inl h, .inr g => .inr (h.rev.trans' g)
  | .inr h, .inl g => .inr (h.trans' g)
  | .inr h, .inr g => .inl (by have := h.rev; rw [List.reverse_reverse] at this; exact this.trans' g)
theorem Sim.back (a : List Int) : Sim a a.reverse := .inr (Cyc.rfl' _)
theorem Sim.mem {a b : List Int} : Sim a b → ∀ x, x ∈ b ↔ x ∈ a
  | .inl h, x => h.mem x
  | .inr h, x => by rw [h.mem x, List.mem_reverse]
/-- The names that a loop has: what is told of it anew. -/
def Tells (w r : List Int) : Prop := ∃ x, Sim w x ∧ r = anew [] x
theorem anew_sim {x z : List Int} (h : Sim x z) : anew [] (z.map (namG x)) = anew [] z :=
  anew_anew x z (fun y hy => (h.mem y).1 hy)
/-- What tells the same has the same names. -/
theorem tells_same {w x r : List Int} (h : Sim w x) : Tells (anew [] x) r ↔ Tells w r := by
  have e : anew [] x = x.map (namG x) := anew_as_map x []
  constructor
  · rintro ⟨y, hy, rfl⟩
    rw [e] at hy
    rcases hy with hy | hy
    · obtain ⟨z, hz, rfl⟩ := hy.of_map
      exact ⟨z, h.trans' (.inl hz), anew_sim (.inl hz)⟩
    · rw [← List.map_reverse] at hy
      obtain ⟨z, hz, rfl⟩ := hy.of_map
      exact ⟨z, h.trans' (.inr hz), anew_sim (.inr hz)⟩
  · rintro ⟨z, hz, rfl⟩
    have hs := h.symm'.trans' hz
    refine ⟨z.map (namG x), ?_, (anew_sim hs).symm⟩
    rw [e]
    rcases hs with g | g
    · exact .inl g.map'
    · exact .inr (by rw [← List.map_reverse]; exact g.map')
theorem back_twice {w : List Int} (h : anew [] w = w) : anew [] (anew [] w.reverse).reverse = w := by
  rw [anew_as_map w.reverse, ← List.map_reverse, List.reverse_reverse]
  have := anew_sim (x := w.reverse) (z := w) (Sim.back w).symm'
  unfold namG at this
  rw [this, h]
theorem like_cyc {w u x : List Int} {m : Nat} (h : Like w u m) : Cyc u x → Like w x m := by
  rintro ⟨p, q, rfl, rfl⟩
  refine ⟨h.loop, fun x => by rw [← h.mem]; simp [or_comm], fun x => by rw [← h.cnt]; simp [Nat.add_comm], fun a b ha hb hab => ?_⟩
  rw [← h.tab a b ha hb hab]
  exact laced_rot hab p q (like_two h ha) (like_two h hb)
theorem like_sim {w x : List Int} {m : Nat} (h : Loop w m) : Sim w x → Like w x m
  | .inl g => by obtain ⟨p, q, e, rfl⟩ := g; exact like_rot h e
  | .inr g => like_cyc (like_rev h) g
theorem tells_loop {w r : List Int} {m : Nat} (h : Loop w m) : Tells w r → Loop r m ∧ (DrawnM m (tabM r) ↔ DrawnM m (tabM w)) := by
  rintro ⟨x, hx, rfl⟩
  have hl := like_sim h hx
  exact ⟨like_loop hl, like_drawn hl⟩
/-- A text with each of its letters twice, named anew, is a loop. -/
theorem twice_loop {u : List Int} {k : Nat} (h : ∀ x ∈ u, u.count x = 2) (hl : u.length = 2 * k) (hk : k ≤ 8) : Loop (anew [] u) k := by
  have hg : goodL (anew [] u) = true := by
    simp only [goodL, Bool.and_eq_true, decide_eq_true_eq, beq_iff_eq, List.all_eq_true]
    refine ⟨⟨by rw [anew_length]; omega, ?_⟩, fun x hx => ?_⟩
    · have e := anew_anew u u (fun _ hx => hx)
      rw [← anew_as_map u []] at e
      exact e
    · rw [anew_as_map] at hx ⊢
      obtain ⟨y, hy, rfl⟩ := List.mem_map.1 hx
      have := count_inj (namG u) y u (fun z hz e => namG_inj u z hz y hy e)
      unfold namG at this
      rw [this]
      exact h y hy
  obtain ⟨j, hj⟩ := loop_of hg
  have e := hj.len
  rw [anew_length] at e
  obtain rfl : j = k := by omega
  exact hj
theorem Ren.inv {n : Nat} {f : Nat → Nat} (h : Ren n f) : ∃ g, Ren n g ∧ ∀ a, a < n → f (g a) = a := by
  have hx : ∀ x, ∃ a, x < n → a < n ∧ f a = x := fun x => by
    by_cases hx : x < n
    · obtain ⟨a, ha⟩ := h.onto x hx
      exact ⟨a, fun _ => ha⟩
    · exact ⟨0, fun e => absurd e hx⟩
  refine ⟨fun x => Classical.choose (hx x), ⟨fun a ha => (Classical.choose_spec (hx a) ha).1, fun a b ha hb e => ?_⟩, fun a ha => (Classical.choose_spec (hx a) ha).2⟩
  rw [← (Classical.choose_spec (hx a) ha).2, ← (Classical.choose_spec (hx b) hb).2]
  exact congrArg f e
theorem drawn_ren {n : Nat} {f : Nat → Nat} (h : Ren n f) {E F : Nat → Nat → Bool} (he : ∀ a b, a < n → b < n → F a b = E (f a) (f b)) : DrawnM n F ↔ DrawnM n E := by
  obtain ⟨g, hg, hfg⟩ := h.inv
  exact drawnM_iff_ren h hg hfg he
theorem drawn_one : DrawnM 1 (fun _ _ => false) := by
  refine ⟨fun a ha => ?_, fun a b ha hb hn => by omega, fun _ => 1, fun _ => .inl rfl, fun a b ha hb hn he => by cases he⟩
  unfold degM
  rw [count_none _ 1 (fun _ _ => rfl)]
/-- A loop without one of its letters. -/
def outL (w : List Int) (c : Int) : List Int := w.filter (fun x => x != c)
theorem out_mem {w : List Int} {c : Int} (x : Int) : x ∈ outL w c ↔ x ∈ w ∧ x ≠ c := by
  unfold outL
  rw [List.mem_filter, bne_iff_ne]
theorem out_two {w : List Int} {m : Nat} (h : Loop w m) {c : Int} : ∀ x ∈ outL w c, (outL w c).count x = 2 := fun x hx => by
  have hx2 := (out_mem x).1 hx
  unfold outL
  rw [List.count_filter (by simpa using hx2.2)]
  exact h.cnt (h.lo x hx2.1) (h.hi x hx2.1)
section
variable {w : List Int} {m : Nat} (h : Loop w m) {c : Int} (hc : c ∈ w)
include h hc
theorem out_count : w.count c = 2 := h.cnt (h.lo c hc) (h.hi c hc)
theorem out_len : (outL w c).length = 2 * (m - 1) := by
  have e : w.length = (w.filter (fun x => x != c)).length + w.count c := by
    rw [List.length_eq_countP_add_countP (fun x => x != c), List.countP_eq_length_filter]
    congr 1
    unfold List.count
    exact List.countP_congr fun x _ => by simp
  rw [out_count h hc, h.len] at e
  unfold outL
  omega
theorem out_pos : 0 < m := by
  have := h.lo c hc
  have := h.hi c hc
  omega
theorem out_loop : Loop (anew [] (outL w c)) (m - 1) := twice_loop (out_two h) (out_len h hc) (by have := h.few; omega)
theorem out_names : (newN [] (outL w c)).length = m - 1 := by
  have hp : (newN [] (outL w c) ++ [c]).Perm (abcL m) := by
    rw [List.perm_ext_iff_of_nodup ?_ (abc_nodup m)]
    · intro x
      rw [List.mem_append, List.mem_singleton]
      constructor
      · rintro (hx | rfl)
        · rcases newN_back _ [] x hx with e | e
          · cases e
          · have hm := ((out_mem x).1 e).1
            exact (mem_abc m x).2 ⟨h.lo x hm, h.hi x hm⟩
        · exact (mem_abc m x).2 ⟨h.lo x hc, h.hi x hc⟩
      · intro hx
        have hx2 := (mem_abc m x).1 hx
        have h2 := h.cnt hx2.1 hx2.2
        by_cases e : x = c
        · exact .inr e
        · exact .inl (newN_mem _ [] x ((out_mem x).2 ⟨List.count_pos_iff.1 (by omega), e⟩))
    · refine List.nodup_append.2 ⟨newN_nodup _ [] (by simp), by simp, fun a ha b hb e => ?_⟩
      obtain rfl : b = c := by simpa using hb
      subst e
      rcases newN_back _ [] a ha with e | e
      · cases e
      · exact ((out_mem a).1 e).2 rfl
  have := hp.length_eq
  rw [abc_length, List.length_append, List.length_singleton] at this
  omega
def outF (u : List Int) (k : Nat) (c : Int) (i : Nat) : Nat := if i < k then ((newN [] u).getD i 0 - 97).toNat else (c - 97).toNat
theorem out_at {i : Nat} (hi : i < m - 1) : ∃ x, x ∈ w ∧ x ∈ outL w c ∧ x ≠ c ∧ namG (outL w c) x = 97 + (i : Int) ∧ (97 : Int) + (outF (outL w c) (m - 1) c i : Int) = x := by
  have hl := out_names h hc
  have hi2 : i < (newN [] (outL w c)).length := by omega
  have e : (newN [] (outL w c)).getD i 0 = (newN [] (outL w c))[i] := by simp [List.getD_eq_getElem?_getD, List.getElem?_eq_getElem hi2]
  have hu : (newN [] (outL w c))[i] ∈ outL w c := by
    rcases newN_back _ [] _ (List.getElem_mem hi2) with h | h
    · cases h
    · exact h
  have hw := (out_mem _).1 hu
  have hlo := h.lo _ hw.1
  refine ⟨_, hw.1, hu, hw.2, ?_, ?_⟩
  · unfold namG
    rw [(newN_nodup _ [] (by simp)).idxOf_getElem i hi2]
  · unfold outF
    rw [if_pos hi, e]
    omega
theorem out_ren : Ren m (outF (outL w c) (m - 1) c) := by
  have hp := out_pos h hc
  have hcl := h.lo c hc
  have hch := h.hi c hc
  have el : outF (outL w c) (m - 1) c (m - 1) = (c - 97).toNat := if_neg (by omega)
  refine ⟨fun a ha => ?_, fun a b ha hb e => ?_⟩
  · by_cases h1 : a < m - 1
    · obtain ⟨x, xw, _, _, _, fx⟩ := out_at h hc h1
      have := h.hi x xw
      omega
    · obtain rfl : a = m - 1 := by omega
      omega
  · by_cases h1 : a < m - 1
    · obtain ⟨x, xw, xu, xc, ex, fx⟩ := out_at h hc h1
      by_cases h2 : b < m - 1
      · obtain ⟨y, yw, yu, yc, ey, fy⟩ := out_at h hc h2
        rw [e, fy] at fx
        subst fx
        rw [ex] at ey
        omega
      · obtain rfl : b = m - 1 := by omega
        omega
    · obtain rfl : a = m - 1 := by omega
      by_cases h2 : b < m - 1
      · obtain ⟨y, yw, yu, yc, ey, fy⟩ := out_at h hc h2
        omega
      · omega
theorem out_tab {i j : Nat} (hi : i < m - 1) (hj : j < m - 1) : tabM (anew [] (outL w c)) i j = tabM w (outF (outL w c) (m - 1) c i) (outF (outL w c) (m - 1) c j) := by
  obtain ⟨x, xw, xu, xc, ex, fx⟩ := out_at h hc hi
  obtain ⟨y, yw, yu, yc, ey, fy⟩ := out_at h hc hj
  have hl := out_loop h hc
  unfold tabM
  rw [fx, fy]
  by_cases e : i = j
  · subst e
    rw [← ex] at ey
    obtain rfl := namG_inj _ _ yu _ xu ey
    rw [laced_self (hl.two i hi), laced_self (h.cnt (h.lo _ xw) (h.hi _ xw))]
  · have e1 := laced_map (namG (outL w c)) (a := x) (b := y) (out_two h x xu) (namG_inj _) yu
    rw [ex, ey] at e1
    rw [anew_as_map]
    refine e1.trans ?_
    exact laced_drop (h.cnt (h.lo x xw) (h.hi x xw)) xc yc
/-- A letter that is laced with none can be taken out. -/
theorem out_drawn (hn : ∀ x ∈ w, lacedL w c x = false) : DrawnM (m - 1) (tabM (anew [] (outL w c))) ↔ DrawnM m (tabM w) := by
  have hp := out_pos h hc
  have hcl := h.lo c hc
  have el : (97 : Int) + (outF (outL w c) (m - 1) c (m - 1) : Int) = c := by
    unfold outF
    rw [if_neg (by omega)]
    omega
  have hn2 : ∀ x ∈ w, lacedL w x c = false := fun x hx => by
    rw [laced_comm (h.cnt (h.lo x hx) (h.hi x hx)) (out_count h hc)]
    exact hn x hx
  have e := drawn_ren (n := m) (E := tabM w) (F := joinM (m - 1) (tabM (anew [] (outL w c))) (fun _ _ => false)) (out_ren h hc) (fun a b ha hb => by
    unfold joinM
    by_cases h1 : a < m - 1
    · rw [if_pos h1]
      by_cases h2 : b < m - 1
      · rw [if_pos h2]
        exact out_tab h hc h1 h2
      · obtain rfl : b = m - 1 := by omega
        obtain ⟨x, xw, _, _, _, fx⟩ := out_at h hc h1
        rw [if_neg h2]
        unfold tabM
        rw [el, fx, hn2 x xw]
    · obtain rfl : a = m - 1 := by omega
      rw [if_neg h1]
      unfold tabM
      rw [el]
      by_cases h2 : b < m - 1
      · obtain ⟨x, xw, _, _, _, fx⟩ := out_at h hc h2
        rw [if_pos h2, fx, hn x xw]
      · obtain rfl : b = m - 1 := by omega
        rw [if_neg h2, el, hn c hc])
  have e2 := drawnM_join (n := m - 1) (k := 1) (E := tabM (anew [] (outL w c))) (F := fun _ _ => false)
  rw [show m - 1 + 1 = m by omega] at e2
  rw [← e, e2]
  exact ⟨fun h => ⟨h, drawn_one⟩, fun h => h.1⟩
end
end Go.Proofs.YtcgoaipbfnhjhaaGreatDoor.M

/- Whether a loop can be drawn is told by its table alone. -/
namespace Go.Proofs.YtcgoaipbfnhjhaaGreatDoor.M
open Go.RowKit Go.Proofs.YtcgoaipbfnhjhaaGreatDoorW.PrintWords Go.Proofs.YtcgoaipbfnhjhaaGreatDoorW.PrintLast Go.Proofs.YtcgoaipbfnhjhaaGreatDoor.Pr
set_option linter.unusedVariables false
set_option linter.unusedSimpArgs false

theorem evR_iff (w : List Int) (m : Nat) : ∀ (d : Nat) (x : Int), evR w m d x = true ↔ ∀ i : Nat, i < d → oddL w m (x + (i : Int)) = false
  | 0, x => by simp [evR]
  | d + 1, x => by
    rw [evR, Bool.and_eq_true, evR_iff w m d (x + 1), Bool.not_eq_true']
    constructor
    · rintro ⟨h1, h2⟩ i hi
      by_cases e : i = 0
      · subst e
        rw [show x + ((0 : Nat) : Int) = x by omega]
        exact h1
      · have := h2 (i - 1) (by omega)
        rwa [show x + 1 + ((i - 1 : Nat) : Int) = x + (i : Int) by omega] at this
    · intro h
      refine ⟨?_, fun i hi => ?_⟩
      · have := h 0 (by omega)
        rwa [show x + ((0 : Nat) : Int) = x by omega] at this
      · have := h (i + 1) (by omega)
        rwa [show x + ((i + 1 : Nat) : Int) = x + 1 + (i : Int) by omega] at this
theorem odd_deg (w : List Int) (m i : Nat) : oddL w m (97 + (i : Int)) = false ↔ degM (tabM w) m i % 2 = 0 := by
  unfold oddL withL
  rw [lettP_len, beq_eq_false_iff_ne]
  show ¬ (((degM (tabM w) m i : Nat) : Int) % 2 = 1) ↔ _
  omega
theorem both_tab (w : List Int) (m i j : Nat) : bothN w m (97 + (i : Int)) (97 + (j : Int)) = bothM (tabM w) m i j := by
  unfold bothN
  rw [lettP_len]
  rfl
theorem valid_congr {n : Nat} {E P E' P' : Nat → Nat → Bool} (hE : ∀ a b, a < n → b < n → E a b = E' a b) (hP : ∀ a b, a < n → b < n → P a b = P' a b) {s : Nat → Int} (h : ValidH n E P s) : ValidH n E' P' s :=
  ⟨h.1, fun a b ha hb hn he => by
    have e := h.2 a b ha hb hn (by rw [hE a b ha hb]; exact he)
    exact e.trans (congrArg (s a * ·) (sg_eq (hP a b ha hb)))⟩
theorem drawnL_iff {w : ByteArray} {m : Nat} (h : Loop (bytesOf w) m) : drawnL w m = true ↔ DrawnM m (tabM (bytesOf w)) := by
  have eE : ∀ a b, a < m → b < m → hvE w a b = tabM (bytesOf w) a b := fun a b ha hb => hvE_eq h ha hb
  have eP : ∀ a b, a < m → b < m → hvP w a b = (bothM (tabM (bytesOf w)) m a b % 2 == 0) := fun a b ha hb => by rw [hvP_eq h ha hb, both_tab]
  have hbad : anyBad w m = false ↔ ∀ a b, a < m → b < m → a < b → tabM (bytesOf w) a b = false → bothM (tabM (bytesOf w)) m a b % 2 = 0 := by
    constructor
    · intro hf a b ha hb hlt he
      cases hp : pairBad w a b with
      | true => rw [anyBad_some ha hb hp] at hf; cases hf
      | false =>
        rw [bad_eq h ha hb, eE a b ha hb, he, eP a b ha hb, decide_eq_true hlt] at hp
        simpa using hp
    · intro hf
      refine anyBad_none fun a b ha hb => ?_
      rw [bad_eq h ha hb, eE a b ha hb, eP a b ha hb]
      by_cases hlt : a < b
      · cases he : tabM (bytesOf w) a b with
        | true => simp
        | false => rw [hf a b ha hb hlt he]; simp
      · rw [decide_eq_false hlt]; rfl
  have hcomm : ∀ a b, a < m → b < m → tabM (bytesOf w) a b = tabM (bytesOf w) b a := fun a b ha hb => laced_comm (h.cnt (by omega) (by omega)) (h.cnt (by omega) (by omega))
  have hbc : ∀ a b, bothM (tabM (bytesOf w)) m a b = bothM (tabM (bytesOf w)) m b a := fun a b => by
    rw [← both_tab, ← both_tab, bothN_comm]
  unfold drawnL
  rw [Bool.and_eq_true, Bool.and_eq_true, Bool.not_eq_true', evR_iff, hbad, anyV_valid (fun a b ha hb => symE h ha hb) (fun a b ha hb => symP h ha hb)]
  constructor
  · rintro ⟨⟨h1, h2⟩, s, hs⟩
    refine ⟨fun a ha => (odd_deg _ _ _).1 (h1 a ha), fun a b ha hb hn he => ?_, s, valid_congr eE eP hs⟩
    by_cases hlt : a < b
    · exact h2 a b ha hb hlt he
    · rw [hbc]
      exact h2 b a hb ha (by omega) (by rw [hcomm b a hb ha]; exact he)
  · rintro ⟨h1, h2, s, hs⟩
    exact ⟨⟨fun a ha => (odd_deg _ _ _).2 (h1 a ha), fun a b ha hb hlt he => h2 a b ha hb (by omega) he⟩, s, valid_congr (fun a b ha hb => (eE a b ha hb).symm) (fun a b ha hb => (eP a b ha hb).symm) hs⟩
end Go.Proofs.YtcgoaipbfnhjhaaGreatDoor.M

/- The first of a loop's names is that of all texts that tell the same loop, and it is drawn alike. -/
namespace Go.Proofs.YtcgoaipbfnhjhaaGreatDoor.M
open Go.RowKit Go.Proofs.YtcgoaipbfnhjhaaGreatDoor.Pr Go.Proofs.YtcgoaipbfnhjhaaGreatDoorW.PrintWords Go.Proofs.YtcgoaipbfnhjhaaGreatDoorW.PrintLast
set_option linter.unusedVariables false
set_option linter.unusedSimpArgs false

def leS (a b : ByteArray) : Prop := ¬ b.data.toList < a.data.toList
theorem leS.trans' {a b c : ByteArray} (h : leS a b) (g : leS b c) : leS a c := List.le_trans (l₁ := a.data.toList) (l₂ := b.data.toList) (l₃ := c.data.toList) h g
theorem leS.refl' (a : ByteArray) : leS a a := List.lt_irrefl _
theorem leS.anti {a b : ByteArray} (h : leS a b) (g : leS b a) : a = b := by
  have e : a.data.toList = b.data.toList := List.le_antisymm h g
  refine bytesOf_inj ?_
  unfold bytesOf
  rw [e]
theorem leS.less {a b : ByteArray} (h : leS a b) : Op.bytesLess b.toList a.toList = false := by
  rw [Proofs.bytesLess_eq, Lib.toList_data, Lib.toList_data]
  exact decide_eq_false h
theorem stp_spec (best o : ByteArray) : (stpS best o = o ∨ stpS best o = best) ∧ leS (stpS best o) o ∧ leS (stpS best o) best := by
  unfold stpS leS
  rw [Proofs.bytesLess_eq, Lib.toList_data, Lib.toList_data]
  by_cases h : o.data.toList < best.data.toList
  · rw [if_pos (decide_eq_true h)]
    exact ⟨.inl rfl, List.lt_irrefl _, List.lt_asymm h⟩
  · rw [if_neg (fun e => h (of_decide_eq_true e))]
    exact ⟨.inr rfl, h, List.lt_irrefl _⟩
theorem turns_spec (s : ByteArray) : ∀ (d i : Nat) (best : ByteArray), (turnsL s d i best = best ∨ ∃ j, i ≤ j ∧ j < i + d ∧ turnsL s d i best = anewS (rotS s j)) ∧ leS (turnsL s d i best) best ∧ ∀ j, i ≤ j → j < i + d → leS (turnsL s d i best) (anewS (rotS s j))
  | 0, i, best => ⟨.inl rfl, leS.refl' _, fun j h1 h2 => by omega⟩
  | d + 1, i, best => by
    obtain ⟨h1, h2, h3⟩ := turns_spec s d (i + 1) (stpS best (anewS (rotS s i)))
    obtain ⟨g1, g2, g3⟩ := stp_spec best (anewS (rotS s i))
    unfold turnsL
    refine ⟨?_, h2.trans' g3, fun j hj1 hj2 => ?_⟩
    · rcases h1 with h1 | ⟨j, a, b, e⟩
      · rcases g1 with g1 | g1
        · exact .inr ⟨i, by omega, by omega, by rw [h1, g1]⟩
        · exact .inl (by rw [h1, g1])
      · exact .inr ⟨j, by omega, by omega, e⟩
    · by_cases e : j = i
      · subst e
        exact h2.trans' g2
      · exact h3 j (by omega) (by omega)
structure FirstP (w r : ByteArray) : Prop where
  tells : Tells (bytesOf w) (bytesOf r)
  least : ∀ y, Tells (bytesOf w) (bytesOf y) → leS r y
theorem FirstP.unique {w r s : ByteArray} (h : FirstP w r) (g : FirstP w s) : r = s := (h.least s g.tells).anti (g.least r h.tells)
theorem good_anew {w : ByteArray} (h : goodS w = true) : anew [] (bytesOf w) = bytesOf w := by
  have h1 : goodL (bytesOf w) = true := h
  simp only [goodL, Bool.and_eq_true, decide_eq_true_eq, beq_iff_eq] at h1
  exact h1.1.2
theorem tells_self {w : ByteArray} (h : goodS w = true) : Tells (bytesOf w) (bytesOf w) := ⟨bytesOf w, Sim.rfl' _, (good_anew h).symm⟩
theorem tells_rot (w : ByteArray) (h : w.size ≤ 16) (j : Nat) (hj : j ≤ w.size) : Tells (bytesOf w) (bytesOf (anewS (rotS w j))) := by
  refine ⟨_, ?_, bytesOf_anew _ (by rw [rot_size w j hj]; omega)⟩
  rw [bytesOf_rot]
  exact .inl ⟨_, _, (List.take_append_drop j _).symm, rfl⟩
theorem tells_back (w : ByteArray) (h : w.size ≤ 16) (j : Nat) (hj : j ≤ w.size) : Tells (bytesOf w) (bytesOf (anewS (rotS (backS w) j))) := by
  have hz := back_size w
  refine ⟨_, ?_, bytesOf_anew _ (by rw [rot_size _ j (by omega)]; omega)⟩
  rw [bytesOf_rot, bytesOf_back]
  exact .inr ⟨_, _, (List.take_append_drop j _).symm, rfl⟩
theorem cyc_at {a x : List Int} (h : Cyc a x) (hne : a ≠ []) : ∃ j, j < a.length ∧ x = a.drop j ++ a.take j := by
  obtain ⟨p, q, rfl, rfl⟩ := h
  by_cases hq : q = []
  · subst hq
    refine ⟨0, List.length_pos_iff.2 hne, by simp⟩
  · have := List.length_pos_iff.2 hq
    exact ⟨p.length, by rw [List.length_append]; omega, by simp⟩
theorem first_spec {w : ByteArray} (h : goodS w = true) : FirstP w (firstS w) := by
  have h16 := good_size h
  have hz := back_size w
  have hl := bytesOf_length w
  obtain ⟨a1, a2, a3⟩ := turns_spec w w.size 0 w
  obtain ⟨b1, b2, b3⟩ := turns_spec (backS w) w.size 0 (turnsL w w.size 0 w)
  refine ⟨?_, fun y hy => ?_⟩
  · unfold firstS
    rcases b1 with e | ⟨j, _, hj, e⟩
    · rw [e]
      rcases a1 with e | ⟨j, _, hj, e⟩
      · rw [e]; exact tells_self h
      · rw [e]; exact tells_rot w h16 j (by omega)
    · rw [e]; exact tells_back w h16 j (by omega)
  · show leS (turnsL (backS w) w.size 0 (turnsL w w.size 0 w)) y
    obtain ⟨x, hx, ey⟩ := hy
    by_cases hne : bytesOf w = []
    · have ex : x = [] := by
        refine List.eq_nil_iff_forall_not_mem.2 (fun z hz => ?_)
        have := (hx.mem z).1 hz
        rw [hne] at this
        cases this
      have : y = w := bytesOf_inj (by rw [ey, hne, ex]; rfl)
      rw [this]
      exact b2.trans' a2
    · rcases hx with hx | hx
      · obtain ⟨j, hj, ex⟩ := cyc_at hx hne
        have : y = anewS (rotS w j) := bytesOf_inj (by rw [bytesOf_anew _ (by rw [rot_size w j (by omega)]; omega), bytesOf_rot, ey, ex])
        rw [this]
        exact b2.trans' (a3 j (by omega) (by omega))
      · obtain ⟨j, hj, ex⟩ := cyc_at hx (by simpa using hne)
        rw [List.length_reverse] at hj
        have : y = anewS (rotS (backS w) j) := bytesOf_inj (by rw [bytesOf_anew _ (by rw [rot_size _ j (by omega)]; omega), bytesOf_rot, bytesOf_back, ey, ex])
        rw [this]
        exact b3 j (by omega) (by omega)
theorem first_le {w : ByteArray} (h : goodS w = true) : leS (firstS w) w := (first_spec h).least w (tells_self h)
theorem tells_good {w v : ByteArray} (h : goodS w = true) (ht : Tells (bytesOf w) (bytesOf v)) : goodS v = true := by
  obtain ⟨m, hm⟩ := loop_of (show goodL (bytesOf w) = true from h)
  exact (tells_loop hm ht).1.good
theorem first_same {w v : ByteArray} (h : goodS w = true) (ht : Tells (bytesOf w) (bytesOf v)) : firstS v = firstS w := by
  have hf := first_spec (tells_good h ht)
  obtain ⟨x, hx, e⟩ := ht
  refine FirstP.unique (w := w) ⟨?_, fun y hy => ?_⟩ (first_spec h)
  · have := hf.tells
    rw [e] at this
    exact (tells_same hx).1 this
  · exact hf.least y (by rw [e]; exact (tells_same hx).2 hy)
theorem drawn_same {w v : ByteArray} (h : goodS w = true) (ht : Tells (bytesOf w) (bytesOf v)) : goodS v = true ∧ v.size = w.size ∧ drawnL v (v.size / 2) = drawnL w (w.size / 2) := by
  obtain ⟨m, hm⟩ := loop_of (show goodL (bytesOf w) = true from h)
  obtain ⟨hl, hd⟩ := tells_loop hm ht
  have h1 := hm.len
  have h2 := hl.len
  rw [bytesOf_length] at h1 h2
  refine ⟨hl.good, by omega, ?_⟩
  rw [show v.size / 2 = m by omega, show w.size / 2 = m by omega, Bool.eq_iff_iff, drawnL_iff hl, drawnL_iff hm]
  exact hd
theorem back_tells {w : ByteArray} (h : goodS w = true) : Tells (bytesOf w) (bytesOf (anewS (backS w))) := by
  have h16 := good_size h
  refine ⟨_, Sim.back _, ?_⟩
  rw [bytesOf_anew _ (by rw [back_size]; omega), bytesOf_back]
theorem back_back {w : ByteArray} (h : goodS w = true) : anewS (backS (anewS (backS w))) = w := by
  have h16 := good_size h
  have hz := back_size w
  refine bytesOf_inj ?_
  rw [bytesOf_anew _ (by rw [back_size, anewS_size _ (by omega), hz]; omega), bytesOf_back, bytesOf_anew _ (by omega), bytesOf_back]
  exact back_twice (good_anew h)
theorem turn_tells {w : ByteArray} (h : goodS w = true) (j : Nat) (hj : j ≤ w.size) : Tells (bytesOf w) (bytesOf (anewS (w.extract j w.size ++ w.extract 0 j))) := tells_rot w (good_size h) j hj
end Go.Proofs.YtcgoaipbfnhjhaaGreatDoor.M

/- Curls: they are laced with none, and a loop of more than one crossing that has one is not one loop. Letters that are laced. -/
namespace Go.Proofs.YtcgoaipbfnhjhaaGreatDoor.M
open Go.RowKit Go.Proofs.YtcgoaipbfnhjhaaGreatDoor.Pr Go.Proofs.YtcgoaipbfnhjhaaGreatDoorW.PrintWords Go.Proofs.YtcgoaipbfnhjhaaGreatDoorW.PrintLast
set_option linter.unusedVariables false
set_option linter.unusedSimpArgs false

theorem mem_lett (p : Int → Bool) (y : Int) : ∀ (d : Nat) (x : Int), y ∈ lettP p x d ↔ x ≤ y ∧ y < x + (d : Int) ∧ p y = true
  | 0, x => by simp [lettP]; omega
  | d + 1, x => by
    have ih := mem_lett p y d (x + 1)
    unfold lettP
    by_cases e : y = x
    · subst e
      cases h : p y with
      | true => simp; omega
      | false =>
        simp only [Bool.false_eq_true, if_false, and_false, iff_false]
        rw [ih]
        omega
    · cases h : p x with
      | true =>
        simp only [if_true, List.mem_cons]
        rw [ih]
        constructor
        · rintro (e2 | ⟨a, b, c⟩)
          · exact absurd e2 e
          · exact ⟨by omega, by omega, c⟩
        · rintro ⟨a, b, c⟩
          exact .inr ⟨by omega, by omega, c⟩
      | false =>
        simp only [Bool.false_eq_true, if_false]
        rw [ih]
        constructor
        · rintro ⟨a, b, c⟩
          exact ⟨by omega, by omega, c⟩
        · rintro ⟨a, b, c⟩
          exact ⟨by omega, by omega, c⟩
theorem whole_pair {c : Int} (t : ByteArray) (ht : bytesOf t = [c, c]) : wholeB t = true := by
  rw [whole_eq, ht]
  simp
section
variable {w : ByteArray} {m : Nat} (h : M.Loop (bytesOf w) m) {c : Int} (h1 : 97 ≤ c) (h2 : c < 97 + (m : Int))
include h h1 h2
theorem curl_split (hc : curlB w c = true) : ∃ p q r, bytesOf w = p ++ c :: (q ++ c :: r) ∧ c ∉ p ∧ c ∉ q ∧ c ∉ r ∧ (q = [] ∨ p = [] ∧ r = []) := by
  obtain ⟨p, q, r, e, n1, n2, n3⟩ := two_parts c _ (h.cnt h1 h2)
  refine ⟨p, q, r, e, n1, n2, n3, ?_⟩
  have hl := bytesOf_length w
  rw [curl_eq w m h c h1 h2] at hc
  unfold curlS at hc
  rw [e, plc_parts n1 n2 n3] at hc
  rw [e] at hl
  simp only [List.length_append, List.length_cons] at hl
  simp only [Bool.or_eq_true, Bool.and_eq_true, decide_eq_true_eq] at hc
  rcases hc with hc | ⟨hc, hd⟩
  · exact .inl (List.length_eq_zero_iff.1 (by omega))
  · exact .inr ⟨List.length_eq_zero_iff.1 (by omega), List.length_eq_zero_iff.1 (by omega)⟩
theorem curl_laced (hc : curlB w c = true) {x : Int} (hx : x ∈ bytesOf w) : lacedL (bytesOf w) c x = false := by
  obtain ⟨p, q, r, e, n1, n2, n3, hs⟩ := curl_split h h1 h2 hc
  rw [e, laced_parts n1 n2]
  rcases hs with rfl | ⟨rfl, rfl⟩
  · simp
  · by_cases ex : x = c
    · subst ex
      rw [List.count_eq_zero.2 n2]
      rfl
    · have hx2 := h.cnt (h.lo x hx) (h.hi x hx)
      rw [e, List.nil_append, List.count_cons_of_ne (by simpa using fun e => ex e.symm), List.count_append, List.count_cons_of_ne (by simpa using fun e => ex e.symm), List.count_nil, Nat.add_zero] at hx2
      rw [hx2]
      rfl
theorem curl_part (hc : curlB w c = true) (hm : 2 ≤ m) : ∃ j, j < w.size ∧ bytesOf ((w.extract j w.size ++ w.extract 0 j).extract 0 2) = [c, c] := by
  obtain ⟨p, q, r, e, n1, n2, n3, hs⟩ := curl_split h h1 h2 hc
  have hl := bytesOf_length w
  have hn := h.len
  have ee : ∀ j, bytesOf ((w.extract j w.size ++ w.extract 0 j).extract 0 2) = ((bytesOf w).drop j ++ (bytesOf w).take j).take 2 := fun j => by
    rw [bytesOf_extract, List.drop_zero]
    exact congrArg (List.take 2) (bytesOf_rot w j)
  rcases hs with rfl | ⟨rfl, rfl⟩
  · refine ⟨p.length, ?_, ?_⟩
    · rw [e] at hl
      simp only [List.length_append, List.length_cons] at hl
      omega
    · rw [ee, e, List.drop_left]
      rfl
  · refine ⟨1 + q.length, ?_, ?_⟩
    · rw [e] at hl
      simp only [List.length_append, List.length_cons, List.nil_append, List.length_nil] at hl
      omega
    · have e2 : [] ++ c :: (q ++ [c]) = (c :: q) ++ [c] := by simp
      rw [ee, e, e2, show 1 + q.length = (c :: q).length by simp; omega, List.drop_left, List.take_left]
      rfl
end
theorem sizes_two (t : ByteArray) (h : wholeB (t.extract 0 2) = true) : ∀ (d : Nat), 2 ≤ d → sizesB t d 1 = true
  | 0, hd => by omega
  | 1, hd => by omega
  | d + 2, hd => by
    unfold sizesB
    split
    · rfl
    · unfold sizesB
      rw [if_pos h]
theorem from_some (s : ByteArray) (j : Nat) (h : sizesB (s.extract j s.size ++ s.extract 0 j) (s.size - 1) 1 = true) : ∀ (d i : Nat), i ≤ j → j < i + d → fromB s d i = true
  | 0, i, h1, h2 => by omega
  | d + 1, i, h1, h2 => by
    unfold fromB
    by_cases e : i = j
    · subst e
      rw [if_pos h]
    · split
      · rfl
      · exact from_some s j h d (i + 1) (by omega) (by omega)
/-- A loop with a curl and another crossing is not one loop. -/
theorem curl_not_one {w : ByteArray} {m : Nat} (h : M.Loop (bytesOf w) m) {c : Int} (h1 : 97 ≤ c) (h2 : c < 97 + (m : Int)) (hc : curlB w c = true) (hm : 2 ≤ m) : fromB w w.size 0 = true := by
  obtain ⟨j, hj, hp⟩ := curl_part h h1 h2 hc hm
  have hl := bytesOf_length w
  have hn := h.len
  exact from_some w j (sizes_two _ (whole_pair _ hp) _ (by omega)) w.size 0 (by omega) (by omega)
theorem ev_all {w : List Int} {m : Nat} : ∀ (d : Nat) (x : Int), evR w m d x = true → ∀ c, x ≤ c → c < x + (d : Int) → oddL w m c = false := fun d x h c h1 h2 => by
  have := (evR_iff w m d x).1 h (c - x).toNat (by omega)
  rwa [show x + ((c - x).toNat : Int) = c by omega] at this
/-- A letter is taken out. -/
theorem drop_good {w a : ByteArray} {m : Nat} (h : M.Loop (bytesOf w) m) {c : Int} (h1 : 97 ≤ c) (h2 : c < 97 + (m : Int)) (ha : bytesOf a = [c]) : M.Loop (bytesOf (anewS (dropS w a))) (m - 1) := by
  have hcm : c ∈ bytesOf w := List.count_pos_iff.1 (by have := h.cnt h1 h2; omega)
  have hb := dropS_eq w a c ha
  have hsz : (dropS w a).size ≤ 100 := by
    rw [← bytesOf_length, hb]
    have := List.length_filter_le (fun y => y != c) (bytesOf w)
    have := h.len
    have := h.few
    omega
  rw [bytesOf_anew _ hsz, hb]
  exact out_loop h hcm
theorem drop_drawn {w a : ByteArray} {m : Nat} (h : M.Loop (bytesOf w) m) {c : Int} (h1 : 97 ≤ c) (h2 : c < 97 + (m : Int)) (ha : bytesOf a = [c]) (hc : curlB w c = true) : drawnL (anewS (dropS w a)) (m - 1) = drawnL w m := by
  have hcm : c ∈ bytesOf w := List.count_pos_iff.1 (by have := h.cnt h1 h2; omega)
  have hb := dropS_eq w a c ha
  have hg := drop_good h h1 h2 ha
  have hsz : (dropS w a).size ≤ 100 := by
    rw [← bytesOf_length, hb]
    have := List.length_filter_le (fun y => y != c) (bytesOf w)
    have := h.len
    have := h.few
    omega
  rw [Bool.eq_iff_iff, drawnL_iff hg, drawnL_iff h, bytesOf_anew _ hsz, hb]
  exact out_drawn h hcm (fun x hx => curl_laced h h1 h2 hc hx)
end Go.Proofs.YtcgoaipbfnhjhaaGreatDoor.M

/- The cursor over bytes: each pick ends, within its bounds. -/
namespace Go.Proofs.YtcgoaipbfnhjhaaGreatDoor.M
open Go.RowKit Go.Proofs.YtcgoaipbfnhjhaaGreatDoorW.PrintWords Go.Proofs.YtcgoaipbfnhjhaaGreatDoor.Pr
set_option linter.unusedVariables false
set_option linter.unusedSimpArgs false

/-- Bytes. -/
def By (l : List Int) : Prop := ∀ x ∈ l, 0 ≤ x ∧ x ≤ 255
theorem by_wf {l : List Int} (h : ∀ x ∈ l, (Lit.int .u8 x).wf = true) : By l := by
  intro x hx
  have := h x hx
  simp [Lit.wf, IntKind.min, IntKind.max, IntKind.signed, IntKind.bits] at this
  omega
theorem and255 {x : Int} (h0 : 0 ≤ x) (h1 : x ≤ 18446744073709551615) : 0 ≤ Go.bits .and .u64 x 255 ∧ Go.bits .and .u64 x 255 ≤ 255 := by
  have h := bits_and_u64_nat x.toNat 255 (by omega) (by omega)
  rw [Int.toNat_of_nonneg h0] at h
  have h2 : x.toNat &&& 255 ≤ 255 := Nat.and_le_right
  rw [show (255 : Int) = ((255 : Nat) : Int) from rfl, h]
  omega
theorem wrap_u64 (x : Int) : 0 ≤ IntKind.u64.wrap x ∧ IntKind.u64.wrap x ≤ 18446744073709551615 := by
  simp only [IntKind.wrap, IntKind.signed, IntKind.bits]
  simp
  omega
/-- A place of the cursor. -/
def At (n : Int) (a : Int) : Prop := 0 ≤ a ∧ a ≤ n
theorem At.up {n m a : Int} (h : At n a) (hm : n ≤ m) : At m a := ⟨h.1, Int.le_trans h.2 hm⟩
theorem rd_by {l : List Int} (h : By l) {i : Int} (h0 : 0 ≤ i) (h1 : i < l.length) : 0 ≤ rd l i ∧ rd l i ≤ 255 := by
  unfold rd
  have hm : i.toNat < l.length := by omega
  have hg : l.getD i.toNat 0 = l[i.toNat] := by simp [List.getD_eq_getElem?_getD, List.getElem?_eq_getElem hm]
  first | (rw [hg]; exact h _ (List.getElem_mem hm)) | (simp only [rdOf]; rw [hg]; exact h _ (List.getElem_mem hm))
theorem next_ok {l : List Int} (hl : By l) {n a : Int} (s : Int) (ha : At n a) (hn : n ≤ 1000000000) : ∃ r a' s', spec_l1Cur_next.f l a s = some (r, a', s') ∧ 0 ≤ r ∧ r ≤ 255 ∧ At (n + 1) a' := by
  obtain ⟨h0, h1⟩ := ha
  have hw : wrap64 (a + 1) = a + 1 := w64 (by omega) (by omega)
  unfold spec_l1Cur_next.f
  rw [hw]
  by_cases h : a < (l.length : Int)
  · have hr := rd_by hl h0 h
    rw [if_pos h, if_pos h0, if_pos (by omega)]
    exact ⟨_, _, _, rfl, by rw [w64 (by omega) (by omega)]; exact hr.1, by rw [w64 (by omega) (by omega)]; exact hr.2, by omega, by omega⟩
  · rw [if_neg h]
    by_cases h2 : a + 1 ≤ (l.length : Int)
    · rw [if_pos h2]
      exact ⟨_, _, _, rfl, by omega, by omega, by omega, by omega⟩
    · rw [if_neg h2]
      have hq := wrap_u64 (IntKind.u64.wrap (IntKind.u64.wrap (s * 6364136223846793005) + 0) + 1442695040888963407)
      have hb := and255 (x := IntKind.u64.wrap (IntKind.u64.wrap (IntKind.u64.wrap (s * 6364136223846793005) + 0) + 1442695040888963407) / 1099511627776) (by omega) (by omega)
      exact ⟨_, _, _, rfl, by rw [w64 (by omega) (by omega)]; exact hb.1, by rw [w64 (by omega) (by omega)]; exact hb.2, by omega, by omega⟩
theorem tmod_in {x n : Int} (hx : 0 ≤ x) (hn : 0 < n) : 0 ≤ Int.tmod x n ∧ Int.tmod x n < n := by
  rw [Int.tmod_eq_emod_of_nonneg hx]
  exact ⟨Int.emod_nonneg _ (by omega), Int.emod_lt_of_pos _ hn⟩
theorem pick_ok {l : List Int} (hl : By l) {n a : Int} (s : Int) (ha : At n a) (hn : n ≤ 900000000) (m : Int) : ∃ r a' s', spec_l1Cur_pick.f l a s m = some (r, a', s') ∧ 0 ≤ r ∧ (1 < m → r < m) ∧ (m ≤ 1 → r = 0) ∧ At (n + 2) a' := by
  unfold spec_l1Cur_pick.f
  by_cases h : m ≤ 1
  · rw [if_pos h]
    exact ⟨_, _, _, rfl, by omega, by omega, fun _ => rfl, ha.up (by omega)⟩
  · rw [if_neg h]
    obtain ⟨r, a1, s1, e, hr0, hr1, ha1⟩ := next_ok hl s ha (by omega)
    rw [e]
    simp only [Option.bind_some]
    by_cases h2 : m > 200
    · rw [if_pos h2]
      obtain ⟨r2, a2, s2, e2, hq0, hq1, ha2⟩ := next_ok hl s1 ha1 (by omega)
      rw [e2]
      simp only [Option.bind_some]
      rw [if_neg (by omega), w64 (x := r * 256) (by omega) (by omega), w64 (by omega) (by omega)]
      have ht := tmod_in (x := r * 256 + r2) (n := m) (by omega) (by omega)
      exact ⟨_, _, _, rfl, ht.1, fun _ => ht.2, fun q => absurd q h, ha2.up (by omega)⟩
    · rw [if_neg h2, if_neg (by omega)]
      have ht := tmod_in (x := r) (n := m) (by omega) (by omega)
      exact ⟨_, _, _, rfl, ht.1, fun _ => ht.2, fun q => absurd q h, ha1.up (by omega)⟩
theorem one_ok {l : List Int} (hl : By l) {n a : Int} (s : Int) (ha : At n a) (hn : n ≤ 900000000) (m : Int) : ∃ r a' s', spec_l1Cur_one.f l a s m = some (r, a', s') ∧ At (n + 2) a' := by
  obtain ⟨r, a1, s1, e, _, _, _, h1⟩ := pick_ok hl s ha hn m
  unfold spec_l1Cur_one.f
  rw [e]
  exact ⟨_, _, _, rfl, h1⟩
end Go.Proofs.YtcgoaipbfnhjhaaGreatDoor.M

/- In how many ways a loop goes on. Plain numbers, no program. -/
namespace Go.Proofs.YtcgoaipbfnhjhaaGreatDoor.M
set_option linter.unusedVariables false
set_option linter.unusedSimpArgs false

def facW : Nat → Nat
  | 0 => 1
  | o + 1 => (o + 1) * facW o
def wayR (f : Nat → Nat) : Nat → Nat
  | 0 => f 1
  | o + 1 => (o + 1) * wayR f o + f (o + 2)
/-- With so many letters still to come, and so many open. -/
def ways : Nat → Nat → Nat
  | 0 => facW
  | l + 1 => wayR (ways l)
theorem ways_00 : ways 0 0 = 1 := rfl
theorem ways_0s (o : Nat) : ways 0 (o + 1) = (o + 1) * ways 0 o := rfl
theorem ways_s0 (l : Nat) : ways (l + 1) 0 = ways l 1 := rfl
theorem ways_ss (l o : Nat) : ways (l + 1) (o + 1) = (o + 1) * ways (l + 1) o + ways l (o + 2) := rfl
theorem ways_small (l o : Nat) (h : o + l ≤ 8) : ways l o ≤ 2027025 := by
  have hd : (List.range 9).all (fun l => (List.range 9).all fun o => decide (8 < o + l) || decide (ways l o ≤ 2027025)) = true := by decide +kernel
  have h1 := List.all_eq_true.1 hd l (List.mem_range.2 (by omega))
  have h2 := List.all_eq_true.1 h1 o (List.mem_range.2 (by omega))
  rw [decide_eq_false (by omega), Bool.false_or] at h2
  exact of_decide_eq_true h2
end Go.Proofs.YtcgoaipbfnhjhaaGreatDoor.M

/- The program and the reference count the ways to go on alike. -/
namespace Go.Proofs.YtcgoaipbfnhjhaaGreatDoor.M
open Go.RowKit Go.Proofs.YtcgoaipbfnhjhaaGreatDoor.Pr Go.Proofs.YtcgoaipbfnhjhaaGreatDoorW.PrintWords
set_option linter.unusedVariables false
set_option linter.unusedSimpArgs false

theorem loWays_ev : ∀ (l o : Nat), o + l ≤ 8 → Ev (fun k => spec_loWays.f k (o : Int) (l : Int)) (ways l o : Int)
  | 0, 0, _ => by
    refine Ev.step (fun k => by rw [spec_loWays.f]) ?_
    refine Ev.pos rfl (Ev.step (fun k => by rw [spec_loWays.j0]) ?_)
    exact Ev.pos rfl (Ev.val rfl)
  | 0, o + 1, h => by
    have hw := ways_small 0 o (by omega)
    have hm : (o + 1) * ways 0 o ≤ 100 * 2027025 := Nat.mul_le_mul (by omega) hw
    refine Ev.step (fun k => by rw [spec_loWays.f]) ?_
    refine Ev.neg (by omega) (Ev.step (fun k => by rw [spec_loWays.j0]) ?_)
    rw [w64 (x := ((o + 1 : Nat) : Int) - 1) (by omega) (by omega), show (((o + 1 : Nat)) : Int) - 1 = (o : Int) by omega]
    refine Ev.neg (by simp) (Ev.pos (by omega) (Ev.bindk (loWays_ev 0 o (by omega)) (Ev.neg (by omega) (Ev.val ?_))))
    rw [ways_0s, ← Int.natCast_mul, w64 (x := (((o + 1) * ways 0 o : Nat) : Int)) (by omega) (by omega), w64 (by omega) (by omega)]
    omega
  | l + 1, 0, h => by
    have hw := ways_small l 1 (by omega)
    refine Ev.step (fun k => by rw [spec_loWays.f]) ?_
    refine Ev.pos rfl (Ev.step (fun k => by rw [spec_loWays.j0]) ?_)
    have e := loWays_ev l 1 (by omega)
    rw [w64 (x := ((0 : Nat) : Int) + 1) (by omega) (by omega), w64 (x := ((l + 1 : Nat) : Int) - 1) (by omega) (by omega), show (((l + 1 : Nat)) : Int) - 1 = (l : Int) by omega, show ((0 : Nat) : Int) + 1 = ((1 : Nat) : Int) by omega]
    refine Ev.neg (fun e => by have := beq_iff_eq.1 e; omega) (Ev.neg (by omega) (Ev.pos (by omega) (Ev.bindk e (Ev.val ?_))))
    rw [ways_s0, w64 (by omega) (by omega)]
    omega
  | l + 1, o + 1, h => by
    have hw := ways_small (l + 1) o (by omega)
    have hw2 := ways_small l (o + 2) (by omega)
    have hm : (o + 1) * ways (l + 1) o ≤ 100 * 2027025 := Nat.mul_le_mul (by omega) hw
    have e1 := loWays_ev (l + 1) o (by omega)
    have e2 := loWays_ev l (o + 2) (by omega)
    refine Ev.step (fun k => by rw [spec_loWays.f]) ?_
    refine Ev.neg (by omega) (Ev.step (fun k => by rw [spec_loWays.j0]) ?_)
    rw [w64 (x := ((o + 1 : Nat) : Int) - 1) (by omega) (by omega), show (((o + 1 : Nat)) : Int) - 1 = (o : Int) by omega, w64 (x := ((o + 1 : Nat) : Int) + 1) (by omega) (by omega), w64 (x := ((l + 1 : Nat) : Int) - 1) (by omega) (by omega), show (((l + 1 : Nat)) : Int) - 1 = (l : Int) by omega, show (((o + 1 : Nat)) : Int) + 1 = ((o + 2 : Nat) : Int) by omega]
    refine Ev.neg (by simp) (Ev.pos (by omega) (Ev.bindk e1 (Ev.pos (by omega) (Ev.bindk e2 (Ev.val ?_)))))
    rw [ways_ss, ← Int.natCast_mul, w64 (x := (((o + 1) * ways (l + 1) o : Nat) : Int)) (by omega) (by omega), w64 (x := 0 + (((o + 1) * ways (l + 1) o : Nat) : Int)) (by omega) (by omega), w64 (by omega) (by omega)]
    omega
end Go.Proofs.YtcgoaipbfnhjhaaGreatDoor.M

/- The rank of a loop, as a walk over its letters with those that have come once: what the program's walk tells. -/
namespace Go.Proofs.YtcgoaipbfnhjhaaGreatDoor.M
open Go.RowKit Go.Proofs.YtcgoaipbfnhjhaaGreatDoor.Pr Go.Proofs.YtcgoaipbfnhjhaaGreatDoorW.PrintWords
set_option linter.unusedVariables false
set_option linter.unusedSimpArgs false

/-- Letters of a beginning that have come once. -/
def onceL (p : List Int) (j : Nat) : List Int := (abcL j).filter (fun x => p.count x == 1)
structure Beg (p O : List Int) (j : Nat) : Prop where
  op : O = onceL p j
  len : O.length + p.length = 2 * j
  all : ∀ x, x ∈ p ↔ x ∈ abcL j
theorem abc_sorted (j : Nat) : (abcL j).Pairwise (· < ·) := by
  unfold abcL
  rw [List.pairwise_map]
  exact List.pairwise_lt_range.imp (fun h => by omega)
theorem once_sorted (p : List Int) (j : Nat) : (onceL p j).Pairwise (· < ·) := (abc_sorted j).filter _
theorem beg_nil : Beg [] [] 0 := ⟨rfl, rfl, fun x => by simp [abcL]⟩
theorem Beg.mem {p O : List Int} {j : Nat} (h : Beg p O j) (x : Int) : x ∈ O ↔ x ∈ abcL j ∧ p.count x = 1 := by
  rw [h.op, onceL, List.mem_filter, beq_iff_eq]
theorem Beg.nodup {p O : List Int} {j : Nat} (h : Beg p O j) : O.Nodup := by
  rw [h.op]
  exact (once_sorted p j).imp (fun h e => by omega)
theorem Beg.le {p O : List Int} {j : Nat} (h : Beg p O j) : O.length ≤ j := by
  have h1 := h.op
  have : (onceL p j).length ≤ (abcL j).length := List.length_filter_le _ _
  rw [← h1, abc_length] at this
  exact this
theorem Beg.back {p O : List Int} {j : Nat} (h : Beg p O j) {x : Int} (hx : x ∈ O) : x ∈ abcL j := ((h.mem x).1 hx).1
theorem Beg.again {p O : List Int} {j : Nat} (h : Beg p O j) {x : Int} (hx : x ∈ O) : Beg (p ++ [x]) (O.erase x) j := by
  have hm := (h.mem x).1 hx
  refine ⟨?_, ?_, fun y => ?_⟩
  · rw [h.nodup.erase_eq_filter, h.op, onceL, onceL, List.filter_filter]
    refine List.filter_congr fun y hy => ?_
    rw [List.count_append, List.count_singleton]
    by_cases e : y = x
    · subst e
      simp [hm.2]
    · have e2 : (x == y) = false := by simpa using fun h => e h.symm
      have e3 : (y != x) = true := by simpa using e
      rw [e2, e3]
      simp
  · have := List.length_erase_of_mem hx
    have := List.length_pos_of_mem hx
    have := h.len
    simp
    omega
  · rw [List.mem_append, h.all y, List.mem_singleton]
    exact ⟨fun h2 => h2.elim id (fun e => e ▸ hm.1), .inl⟩
theorem Beg.new {p O : List Int} {j : Nat} (h : Beg p O j) : Beg (p ++ [97 + (j : Int)]) (O ++ [97 + (j : Int)]) (j + 1) := by
  have hn : (97 + (j : Int)) ∉ p := fun h2 => by
    have := (mem_abc j _).1 ((h.all _).1 h2)
    omega
  refine ⟨?_, ?_, fun y => ?_⟩
  · rw [onceL, ← abc_succ, List.filter_append, h.op, onceL]
    congr 1
    · refine List.filter_congr fun y hy => ?_
      have := (mem_abc j y).1 hy
      rw [List.count_append, List.count_singleton, show (97 + (j : Int) == y) = false by simpa using fun e : 97 + (j : Int) = y => by omega]
      simp
    · rw [List.filter_cons, List.count_append, List.count_eq_zero.2 hn]
      simp
  · have := h.len
    simp
    omega
  · rw [List.mem_append, h.all y, List.mem_singleton, ← abc_succ, List.mem_append, List.mem_singleton]
theorem erase_le (O : List Int) (x : Int) : (O.erase x).length ≤ O.length := List.length_erase_le

/-- How many letters come ahead of one, in order. -/
def aheadL (O : List Int) (x : Int) : Nat := O.countP (fun y => decide (y < x))
/-- The rank of what is left of a loop, with the letters that are open and how many have come. -/
def rankG (m : Nat) : List Int → Nat → List Int → Nat
  | _, _, [] => 0
  | O, j, x :: r => aheadL O x * ways (m - j) (O.length - 1) + if x ∈ O then rankG m (O.erase x) j r else rankG m (O ++ [x]) (j + 1) r
theorem ahead_le (O : List Int) (x : Int) : aheadL O x ≤ O.length := List.countP_le_length

/-- A letter of a loop that has come has come once. -/
theorem Beg.opened {w : List Int} {m : Nat} (h : Loop w m) {i : Nat} (hi : i < w.length) {O : List Int} {j : Nat} (hb : Beg (w.take i) O j) (hx : w[i] ∈ abcL j) : w[i] ∈ O := by
  have hw : w.count w[i] = 2 := h.cnt (h.lo _ (List.getElem_mem hi)) (h.hi _ (List.getElem_mem hi))
  have hp : 0 < (w.take i).count w[i] := List.count_pos_iff.2 ((hb.all _).2 hx)
  have e : w.take i ++ w[i] :: w.drop (i + 1) = w := by rw [← List.drop_eq_getElem_cons hi, List.take_append_drop]
  generalize w[i] = x at *
  have hc : (w.take i ++ x :: w.drop (i + 1)).count x = (w.take i).count x + ((w.drop (i + 1)).count x + 1) := by
    rw [List.count_append, List.count_cons_self]
  rw [e] at hc
  exact (hb.mem _).2 ⟨hx, by omega⟩
/-- A step of the walk over a loop. -/
theorem Beg.next {w : List Int} {m : Nat} (h : Loop w m) {i : Nat} (hi : i < w.length) {O : List Int} {j : Nat} (hb : Beg (w.take i) O j) (hr : runL j (w.drop i) = some m) :
    (w[i] ∈ O ∧ w[i] < 97 + (j : Int) ∧ Beg (w.take (i + 1)) (O.erase w[i]) j ∧ runL j (w.drop (i + 1)) = some m)
    ∨ (w[i] ∉ O ∧ w[i] = 97 + (j : Int) ∧ j < m ∧ Beg (w.take (i + 1)) (O ++ [w[i]]) (j + 1) ∧ runL (j + 1) (w.drop (i + 1)) = some m) := by
  have e : w.take (i + 1) = w.take i ++ [w[i]] := by rw [List.take_succ_eq_append_getElem hi]
  rw [List.drop_eq_getElem_cons hi, runL] at hr
  by_cases h1 : 97 ≤ w[i] ∧ w[i] < 97 + (j : Int)
  · rw [if_pos h1] at hr
    have ho := hb.opened h hi ((mem_abc j _).2 h1)
    exact .inl ⟨ho, h1.2, by rw [e]; exact hb.again ho, hr⟩
  · rw [if_neg h1] at hr
    by_cases h2 : w[i] = 97 + (j : Int)
    · rw [if_pos h2] at hr
      have := (run_mono _ _ _ hr).1
      refine .inr ⟨fun h3 => h1 ((mem_abc j _).1 (hb.back h3)), h2, by omega, ?_, hr⟩
      rw [e, h2]
      exact hb.new
    · rw [if_neg h2] at hr
      cases hr
end Go.Proofs.YtcgoaipbfnhjhaaGreatDoor.M

/- The rank of a loop: what the reference's walk tells. -/
namespace Go.Proofs.YtcgoaipbfnhjhaaGreatDoor.M
open Go.RowKit Go.Proofs.YtcgoaipbfnhjhaaGreatDoor.Pr Go.Proofs.YtcgoaipbfnhjhaaGreatDoorW.PrintWords
set_option linter.unusedVariables false
set_option linter.unusedSimpArgs false

theorem ahead_sorted (x : Int) : ∀ (O : List Int), O.Pairwise (· < ·) → x ∈ O → aheadL O x = O.idxOf x
  | a :: O, h, hx => by
    rw [List.pairwise_cons] at h
    rw [List.idxOf_cons]
    unfold aheadL
    by_cases e : a = x
    · subst e
      rw [List.countP_cons_of_neg (by simp), List.countP_eq_zero.2 (fun y hy => by have := h.1 y hy; simp; omega)]
      simp
    · have hx2 : x ∈ O := by
        rcases List.mem_cons.1 hx with e2 | e2
        · exact absurd e2.symm e
        · exact e2
      have := h.1 x hx2
      rw [List.countP_cons_of_pos (by simpa using this), show (a == x) = false by simpa using e]
      have ih := ahead_sorted x O h.2 hx2
      unfold aheadL at ih
      rw [ih]
      rfl
theorem ahead_all (x : Int) (O : List Int) (h : ∀ y ∈ O, y < x) : aheadL O x = O.length := by
  unfold aheadL
  exact List.countP_eq_length.2 (fun y hy => by simpa using h y hy)
end Go.Proofs.YtcgoaipbfnhjhaaGreatDoor.M

/- The loop with a rank, and that it is the one: plain lists, no program. -/
namespace Go.Proofs.YtcgoaipbfnhjhaaGreatDoor.M
set_option linter.unusedVariables false
set_option linter.unusedSimpArgs false

/-- What is left of the loop with a rank: d letters, with those that are open and how many have come. -/
def unrG (m : Nat) : Nat → List Int → Nat → Nat → List Int
  | 0, _, _, _ => []
  | d + 1, O, j, r =>
    if h : r / ways (m - j) (O.length - 1) < O.length then O[r / ways (m - j) (O.length - 1)] :: unrG m d (O.eraseIdx (r / ways (m - j) (O.length - 1))) j (r % ways (m - j) (O.length - 1))
    else (97 + (j : Int)) :: unrG m d (O ++ [97 + (j : Int)]) (j + 1) (r - O.length * ways (m - j) (O.length - 1))
theorem ways_pos : ∀ (l o : Nat), 0 < ways l o
  | 0, 0 => by rw [ways_00]; omega
  | 0, o + 1 => by
    rw [ways_0s]
    exact Nat.mul_pos (by omega) (ways_pos 0 o)
  | l + 1, 0 => by rw [ways_s0]; exact ways_pos l 1
  | l + 1, o + 1 => by
    rw [ways_ss]
    have := ways_pos l (o + 2)
    omega
theorem ways_end (o : Nat) : ways 0 (o + 1) = (o + 1) * ways 0 (o + 1 - 1) := ways_0s o
theorem ways_go (l o : Nat) : ways (l + 1) o = o * ways (l + 1) (o - 1) + ways l (o + 1) := by
  cases o with
  | zero => rw [ways_s0, Nat.zero_mul, Nat.zero_add]
  | succ o => exact ways_ss l o
/-- A state of the walk: open letters in order, all among those that have come. -/
structure StG (m : Nat) (O : List Int) (j : Nat) : Prop where
  ord : O.Pairwise (· < ·)
  sub : ∀ x ∈ O, x ∈ abcL j
  le : j ≤ m
/-- What is left of a loop. -/
structure RestG (m : Nat) (O : List Int) (j : Nat) (w : List Int) : Prop where
  run : runL j w = some m
  cnt : ∀ x, w.count x = if x ∈ O then 1 else if 97 + (j : Int) ≤ x ∧ x < 97 + (m : Int) then 2 else 0
theorem StG.nodup {m : Nat} {O : List Int} {j : Nat} (h : StG m O j) : O.Nodup := h.ord.imp (fun h e => by omega)
theorem StG.lt {m : Nat} {O : List Int} {j : Nat} (h : StG m O j) : ∀ y ∈ O, y < 97 + (j : Int) := fun y hy => ((mem_abc j y).1 (h.sub y hy)).2
theorem StG.erase {m : Nat} {O : List Int} {j : Nat} (h : StG m O j) (x : Int) : StG m (O.erase x) j := ⟨h.ord.sublist List.erase_sublist, fun y hy => h.sub y (List.mem_of_mem_erase hy), h.le⟩
theorem StG.new {m : Nat} {O : List Int} {j : Nat} (h : StG m O j) (hj : j < m) : StG m (O ++ [97 + (j : Int)]) (j + 1) := by
  refine ⟨?_, fun y hy => ?_, hj⟩
  · rw [List.pairwise_append]
    exact ⟨h.ord, by simp, fun a ha b hb => by
      obtain rfl : b = 97 + (j : Int) := by simpa using hb
      exact h.lt a ha⟩
  · rcases List.mem_append.1 hy with hy | hy
    · have := (mem_abc j y).1 (h.sub y hy)
      exact (mem_abc (j + 1) y).2 (by omega)
    · obtain rfl : y = 97 + (j : Int) := by simpa using hy
      exact (mem_abc (j + 1) _).2 (by omega)
theorem eraseIdx_getElem {O : List Int} (hn : O.Nodup) (i : Nat) (hi : i < O.length) : O.eraseIdx i = O.erase O[i] := by
  rw [List.erase_eq_eraseIdx_of_idxOf (hn.idxOf_getElem i hi)]
theorem runL_in {j : Nat} {x : Int} {r : List Int} (h : x ∈ abcL j) : runL j (x :: r) = runL j r := by
  have := (mem_abc j x).1 h
  rw [runL, if_pos this]
theorem runL_new (j : Nat) (r : List Int) : runL j ((97 + (j : Int)) :: r) = runL (j + 1) r := by
  rw [runL, if_neg (by omega), if_pos rfl]
/-- The loop with a rank has that rank. -/
theorem unr_ok (m : Nat) : ∀ (d : Nat) (O : List Int) (j r : Nat), StG m O j → O.length + 2 * (m - j) = d → r < ways (m - j) O.length →
    RestG m O j (unrG m d O j r) ∧ (unrG m d O j r).length = d ∧ rankG m O j (unrG m d O j r) = r
  | 0, O, j, r, hs, hd, hr => by
    have h0 : O = [] := List.length_eq_zero_iff.1 (by omega)
    subst h0
    have hle := hs.le
    have hj : j = m := by omega
    subst hj
    rw [Nat.sub_self, List.length_nil, ways_00] at hr
    refine ⟨⟨rfl, fun x => ?_⟩, rfl, ?_⟩
    · rw [if_neg (by simp), if_neg (by omega)]
      rfl
    · simp only [unrG, rankG]
      omega
  | d + 1, O, j, r, hs, hd, hr => by
    have hwp := ways_pos (m - j) (O.length - 1)
    by_cases h : r / ways (m - j) (O.length - 1) < O.length
    · rw [unrG, dif_pos h]
      obtain ⟨i, hi⟩ : ∃ i, i = r / ways (m - j) (O.length - 1) := ⟨_, rfl⟩
      rw [← hi] at h
      simp only [← hi]
      have hxm : O[i] ∈ O := List.getElem_mem h
      have hxa := hs.sub _ hxm
      have hle := hs.le
      rw [eraseIdx_getElem hs.nodup i h]
      have hix : O.idxOf O[i] = i := hs.nodup.idxOf_getElem i h
      have hel : (O.erase O[i]).length = O.length - 1 := List.length_erase_of_mem hxm
      have ih := unr_ok m d (O.erase O[i]) j (r % ways (m - j) (O.length - 1)) (hs.erase _) (by omega) (by rw [hel]; exact Nat.mod_lt _ hwp)
      refine ⟨⟨by rw [runL_in hxa]; exact ih.1.run, fun y => ?_⟩, by rw [List.length_cons, ih.2.1], ?_⟩
      · rw [List.count_cons, ih.1.cnt y]
        by_cases e : O[i] = y
        · subst e
          have hn : O[i] ∉ O.erase O[i] := fun h2 => by
            rw [hs.nodup.mem_erase_iff] at h2
            exact h2.1 rfl
          have hlt := hs.lt _ hxm
          rw [if_neg hn, if_neg (by omega), if_pos hxm]
          simp
        · rw [show (O[i] == y) = false by simpa using e]
          have hiff : y ∈ O.erase O[i] ↔ y ∈ O := List.mem_erase_of_ne (fun e2 => e e2.symm)
          simp only [hiff]
          simp
      · rw [rankG, if_pos hxm, ahead_sorted _ O hs.ord hxm, hix, ih.2.2, hi, Nat.mul_comm]
        exact Nat.div_add_mod _ _
    · rw [unrG, dif_neg h]
      have hge : O.length ≤ r / ways (m - j) (O.length - 1) := by omega
      have hmul : O.length * ways (m - j) (O.length - 1) ≤ r := (Nat.le_div_iff_mul_le hwp).1 hge
      have hle := hs.le
      have hlt : j < m := by
        by_cases e : j < m
        · exact e
        · have e2 : m - j = 0 := by omega
          rw [e2] at hr hmul
          obtain ⟨o, ho⟩ : ∃ o, O.length = o + 1 := ⟨O.length - 1, by omega⟩
          rw [ho, ways_end] at hr
          rw [ho] at hmul
          omega
      obtain ⟨l, hl⟩ : ∃ l, m - j = l + 1 := ⟨m - j - 1, by omega⟩
      have hl2 : m - (j + 1) = l := by omega
      have hgo := ways_go l O.length
      rw [hl] at hr hmul ⊢
      have ih := unr_ok m d (O ++ [97 + (j : Int)]) (j + 1) (r - O.length * ways (l + 1) (O.length - 1)) (hs.new hlt) (by simp; omega) (by
        rw [hl2, List.length_append, List.length_singleton]
        omega)
      have hnx : (97 + (j : Int)) ∉ O := fun h2 => by
        have := hs.lt _ h2
        omega
      refine ⟨⟨by rw [runL_new]; exact ih.1.run, fun y => ?_⟩, by rw [List.length_cons, ih.2.1], ?_⟩
      · rw [List.count_cons, ih.1.cnt y]
        by_cases e : y = 97 + (j : Int)
        · subst e
          rw [if_pos (show (97 + (j : Int)) ∈ O ++ [97 + (j : Int)] by simp), if_neg hnx, if_pos (show 97 + (j : Int) ≤ 97 + (j : Int) ∧ 97 + (j : Int) < 97 + (m : Int) from ⟨by omega, by omega⟩)]
          simp
        · have e2 : ((97 + (j : Int)) == y) = false := by simpa using fun h => e h.symm
          have hiff : y ∈ O ++ [97 + (j : Int)] ↔ y ∈ O := by simp [e]
          rw [e2]
          simp only [hiff]
          by_cases ho : y ∈ O
          · rw [if_pos ho, if_pos ho]; rfl
          · rw [if_neg ho, if_neg ho]
            by_cases h3 : 97 + (j : Int) ≤ y ∧ y < 97 + (m : Int)
            · rw [if_pos h3, if_pos ⟨by omega, h3.2⟩]; rfl
            · rw [if_neg h3, if_neg (fun h4 => h3 ⟨by omega, h4.2⟩)]; rfl
      · rw [rankG, if_neg hnx, ahead_all _ O hs.lt, hl, ih.2.2]
        omega
/-- A loop is the one with its rank. -/
theorem rank_ok (m : Nat) : ∀ (w : List Int) (d : Nat) (O : List Int) (j : Nat), StG m O j → O.length + 2 * (m - j) = d → w.length = d → RestG m O j w →
    unrG m d O j (rankG m O j w) = w ∧ rankG m O j w < ways (m - j) O.length
  | [], d, O, j, hs, hd, hw, hr => by
    obtain rfl : d = 0 := by simpa using hw.symm
    have h0 : O = [] := List.length_eq_zero_iff.1 (by omega)
    subst h0
    exact ⟨rfl, by rw [rankG]; exact ways_pos _ _⟩
  | x :: r, d, O, j, hs, hd, hw, hr => by
    obtain ⟨d, rfl⟩ : ∃ e, d = e + 1 := ⟨d - 1, by simp at hw; omega⟩
    have hwp := ways_pos (m - j) (O.length - 1)
    have hle := hs.le
    have hcx := hr.cnt x
    rw [List.count_cons_self] at hcx
    by_cases hx : x ∈ O
    · have hxa := hs.sub x hx
      have hil := List.idxOf_lt_length_of_mem hx
      have hel : (O.erase x).length = O.length - 1 := List.length_erase_of_mem hx
      have hlt := hs.lt x hx
      have ih := rank_ok m r d (O.erase x) j (hs.erase x) (by omega) (by simpa using hw) ⟨by rw [← runL_in hxa]; exact hr.run, fun y => by
        have hcy := hr.cnt y
        rw [List.count_cons] at hcy
        by_cases e : x = y
        · subst e
          rw [if_pos hx] at hcx
          have hn : x ∉ O.erase x := fun h2 => by
            rw [hs.nodup.mem_erase_iff] at h2
            exact h2.1 rfl
          rw [if_neg hn, if_neg (by omega)]
          omega
        · rw [show (x == y) = false by simpa using e] at hcy
          have hiff : y ∈ O.erase x ↔ y ∈ O := List.mem_erase_of_ne (fun e2 => e e2.symm)
          simp only [hiff]
          simpa using hcy⟩
      rw [hel] at ih
      rw [rankG, if_pos hx, ahead_sorted x O hs.ord hx]
      obtain ⟨z, hz⟩ : ∃ z, z = rankG m (O.erase x) j r := ⟨_, rfl⟩
      rw [← hz] at ih ⊢
      have hdv : (O.idxOf x * ways (m - j) (O.length - 1) + z) / ways (m - j) (O.length - 1) = O.idxOf x := by
        rw [Nat.mul_comm, Nat.mul_add_div hwp, Nat.div_eq_of_lt ih.2, Nat.add_zero]
      have hmd : (O.idxOf x * ways (m - j) (O.length - 1) + z) % ways (m - j) (O.length - 1) = z := by
        rw [Nat.mul_comm, Nat.mul_add_mod, Nat.mod_eq_of_lt ih.2]
      refine ⟨?_, ?_⟩
      · rw [unrG, dif_pos (by rw [hdv]; exact hil), hmd]
        simp only [hdv]
        rw [List.getElem_idxOf hil, eraseIdx_getElem hs.nodup _ hil, List.getElem_idxOf hil, ih.1]
      · have h1 : (O.idxOf x + 1) * ways (m - j) (O.length - 1) ≤ O.length * ways (m - j) (O.length - 1) := Nat.mul_le_mul_right _ hil
        rw [Nat.add_mul, Nat.one_mul] at h1
        have h2 : O.length * ways (m - j) (O.length - 1) ≤ ways (m - j) O.length := by
          cases hm : m - j with
          | zero =>
            obtain ⟨o, ho⟩ : ∃ o, O.length = o + 1 := ⟨O.length - 1, by omega⟩
            rw [ho, ways_end]
            exact Nat.le_refl _
          | succ l => rw [ways_go l O.length]; omega
        omega
    · rw [if_neg hx] at hcx
      have hx3 : 97 + (j : Int) ≤ x ∧ x < 97 + (m : Int) := by
        by_cases h3 : 97 + (j : Int) ≤ x ∧ x < 97 + (m : Int)
        · exact h3
        · rw [if_neg h3] at hcx; omega
      have hrun := hr.run
      rw [runL, if_neg (by omega)] at hrun
      have hxe : x = 97 + (j : Int) := by
        by_cases e : x = 97 + (j : Int)
        · exact e
        · rw [if_neg e] at hrun; cases hrun
      rw [if_pos hxe] at hrun
      subst hxe
      have hlt : j < m := by omega
      obtain ⟨l, hl⟩ : ∃ l, m - j = l + 1 := ⟨m - j - 1, by omega⟩
      have hl2 : m - (j + 1) = l := by omega
      have hgo := ways_go l O.length
      have ih := rank_ok m r d (O ++ [97 + (j : Int)]) (j + 1) (hs.new hlt) (by simp; omega) (by simpa using hw) ⟨hrun, fun y => by
        have hcy := hr.cnt y
        rw [List.count_cons] at hcy
        by_cases e : y = 97 + (j : Int)
        · subst e
          rw [if_pos hx3] at hcx
          rw [if_pos (by simp)]
          omega
        · have e2 : ((97 + (j : Int)) == y) = false := by simpa using fun h => e h.symm
          have hiff : y ∈ O ++ [97 + (j : Int)] ↔ y ∈ O := by simp [e]
          rw [e2] at hcy
          simp only [hiff]
          by_cases ho : y ∈ O
          · rw [if_pos ho] at hcy ⊢; simpa using hcy
          · rw [if_neg ho] at hcy ⊢
            by_cases h3 : 97 + (j : Int) ≤ y ∧ y < 97 + (m : Int)
            · rw [if_pos h3] at hcy
              rw [if_pos ⟨by omega, h3.2⟩]
              simpa using hcy
            · rw [if_neg h3] at hcy
              rw [if_neg (fun h4 => h3 ⟨by omega, h4.2⟩)]
              simpa using hcy⟩
      rw [hl2, List.length_append, List.length_singleton] at ih
      rw [rankG, if_neg hx, ahead_all _ O hs.lt]
      obtain ⟨z, hz⟩ : ∃ z, z = rankG m (O ++ [97 + (j : Int)]) (j + 1) r := ⟨_, rfl⟩
      rw [← hz] at ih ⊢
      rw [hl]
      rw [hl] at hwp
      have hge : ¬ (O.length * ways (l + 1) (O.length - 1) + z) / ways (l + 1) (O.length - 1) < O.length := by
        have := (Nat.le_div_iff_mul_le hwp).2 (Nat.le_add_right (O.length * ways (l + 1) (O.length - 1)) z)
        omega
      refine ⟨?_, by omega⟩
      rw [unrG]
      simp only [hl]
      rw [dif_neg hge, Nat.add_sub_cancel_left, ih.1]
theorem rest_loop {w : List Int} {m : Nat} (h : Loop w m) : RestG m [] 0 w := by
  refine ⟨h.run, fun x => ?_⟩
  rw [if_neg (by simp)]
  by_cases hx : 97 + ((0 : Nat) : Int) ≤ x ∧ x < 97 + (m : Int)
  · rw [if_pos hx]
    exact h.cnt (by omega) hx.2
  · rw [if_neg hx]
    refine List.count_eq_zero.2 (fun hm => hx ?_)
    have := h.lo x hm
    have := h.hi x hm
    omega
theorem loop_rest {w : List Int} {m : Nat} (hm : m ≤ 8) (hl : w.length = 2 * m) (h : RestG m [] 0 w) : Loop w m := by
  have hc := fun x => h.cnt x
  simp only [List.not_mem_nil, if_false] at hc
  have hin : ∀ x ∈ w, 97 ≤ x ∧ x < 97 + (m : Int) := fun x hx => by
    have h1 := hc x
    have h2 : 0 < w.count x := List.count_pos_iff.2 hx
    by_cases h3 : 97 + ((0 : Nat) : Int) ≤ x ∧ x < 97 + (m : Int)
    · exact ⟨by omega, h3.2⟩
    · rw [if_neg h3] at h1; omega
  exact ⟨hl, hm, h.run, fun x hx => (hin x hx).1, fun x hx => (hin x hx).2, fun i hi => by rw [hc, if_pos ⟨by omega, by omega⟩]⟩
theorem st_nil (m : Nat) : StG m [] 0 := ⟨by simp, by simp, by omega⟩
/-- The loop with a rank. -/
def loopN (m r : Nat) : List Int := unrG m (2 * m) [] 0 r
theorem loopN_loop {m r : Nat} (hm : m ≤ 8) (hr : r < ways m 0) : Loop (loopN m r) m ∧ rankG m [] 0 (loopN m r) = r := by
  have h := unr_ok m (2 * m) [] 0 r (st_nil m) (by simp) (by simpa using hr)
  exact ⟨loop_rest hm h.2.1 h.1, h.2.2⟩
theorem loopN_rank {w : List Int} {m : Nat} (h : Loop w m) : loopN m (rankG m [] 0 w) = w ∧ rankG m [] 0 w < ways m 0 := by
  have e := rank_ok m w (2 * m) [] 0 (st_nil m) (by simp) h.len (rest_loop h)
  exact ⟨e.1, by simpa using e.2⟩
/-- Loops come in order. -/
theorem unr_lt (m : Nat) : ∀ (d : Nat) (O : List Int) (j r s : Nat), StG m O j → O.length + 2 * (m - j) = d → r < s → s < ways (m - j) O.length → unrG m d O j r < unrG m d O j s
  | 0, O, j, r, s, hs, hd, hrs, hr => by
    have h0 : O = [] := List.length_eq_zero_iff.1 (by omega)
    subst h0
    have hle := hs.le
    rw [show m - j = 0 by omega, List.length_nil, ways_00] at hr
    omega
  | d + 1, O, j, r, s, hs, hd, hrs, hr => by
    have hwp := ways_pos (m - j) (O.length - 1)
    have hle := hs.le
    have hdm : r / ways (m - j) (O.length - 1) ≤ s / ways (m - j) (O.length - 1) := Nat.div_le_div_right (by omega)
    rw [unrG, unrG]
    by_cases h : s / ways (m - j) (O.length - 1) < O.length
    · rw [dif_pos (Nat.lt_of_le_of_lt hdm h), dif_pos h]
      by_cases e : r / ways (m - j) (O.length - 1) = s / ways (m - j) (O.length - 1)
      · have hr1 := Nat.div_add_mod r (ways (m - j) (O.length - 1))
        have hs1 := Nat.div_add_mod s (ways (m - j) (O.length - 1))
        rw [e] at hr1
        simp only [e]
        rw [eraseIdx_getElem hs.nodup _ h]
        have hel : (O.erase O[s / ways (m - j) (O.length - 1)]).length = O.length - 1 := List.length_erase_of_mem (List.getElem_mem h)
        have hO : 0 < O.length := Nat.lt_of_le_of_lt (Nat.zero_le _) h
        have hmm : r % ways (m - j) (O.length - 1) < s % ways (m - j) (O.length - 1) := by
          generalize ways (m - j) (O.length - 1) * (s / ways (m - j) (O.length - 1)) = z at hr1 hs1
          omega
        refine List.cons_lt_cons_iff.2 (.inr ⟨rfl, unr_lt m d _ j _ _ (hs.erase _) (by omega) hmm (by rw [hel]; exact Nat.mod_lt _ hwp)⟩)
      · exact List.cons_lt_cons_iff.2 (.inl (List.pairwise_iff_getElem.1 hs.ord _ _ (Nat.lt_of_le_of_lt hdm h) h (Nat.lt_of_le_of_ne hdm e)))
    · by_cases h1 : r / ways (m - j) (O.length - 1) < O.length
      · rw [dif_pos h1, dif_neg h]
        exact List.cons_lt_cons_iff.2 (.inl (hs.lt _ (List.getElem_mem h1)))
      · rw [dif_neg h1, dif_neg h]
        have hmul : O.length * ways (m - j) (O.length - 1) ≤ r := (Nat.le_div_iff_mul_le hwp).1 (by omega)
        have hlt : j < m := by
          by_cases e : j < m
          · exact e
          · have e2 : m - j = 0 := by omega
            rw [e2] at hr hmul
            obtain ⟨o, ho⟩ : ∃ o, O.length = o + 1 := ⟨O.length - 1, by omega⟩
            rw [ho, ways_end] at hr
            rw [ho] at hmul
            omega
        obtain ⟨l, hl⟩ : ∃ l, m - j = l + 1 := ⟨m - j - 1, by omega⟩
        have hl2 : m - (j + 1) = l := by omega
        have hgo := ways_go l O.length
        rw [hl] at hr hmul ⊢
        refine List.cons_lt_cons_iff.2 (.inr ⟨rfl, unr_lt m d _ (j + 1) _ _ (hs.new hlt) (by simp; omega) (by omega) ?_⟩)
        rw [hl2, List.length_append, List.length_singleton]
        omega
theorem loopN_lt {m r s : Nat} (hrs : r < s) (hs : s < ways m 0) : loopN m r < loopN m s := unr_lt m (2 * m) [] 0 r s (st_nil m) (by simp) hrs (by simpa using hs)
end Go.Proofs.YtcgoaipbfnhjhaaGreatDoor.M

/- The loop with a rank: the program and the reference tell the same. -/
namespace Go.Proofs.YtcgoaipbfnhjhaaGreatDoor.M
open Go.RowKit Go.Proofs.YtcgoaipbfnhjhaaGreatDoor.Pr Go.Proofs.YtcgoaipbfnhjhaaGreatDoorW.PrintWords Go.Proofs.YtcgoaipbfnhjhaaGreatDoorW.PrintLast
set_option linter.unusedVariables false
set_option linter.unusedSimpArgs false

/-- A state of the walk that builds a loop. -/
structure LoS (m : Nat) (out : ByteArray) (O : List Int) (j r d : Nat) : Prop where
  beg : Beg (bytesOf out) O j
  st : StG m O j
  left : O.length + 2 * (m - j) = d
  rk : r < ways (m - j) O.length
section
variable {m : Nat} {out : ByteArray} {O : List Int} {j r d : Nat}
theorem LoS.size (h : LoS m out O j r d) : out.size + d = 2 * m := by
  have h1 := h.beg.len
  have h2 := h.st.le
  have h3 := h.left
  have h4 := h.beg.le
  rw [bytesOf_length] at h1
  omega
theorem LoS.again (h : LoS m out O j r (d + 1)) {out' : ByteArray} {i : Nat} (hi : i < O.length) (e : bytesOf out' = bytesOf out ++ [O[i]]) {r' : Nat} (hr : r' < ways (m - j) (O.length - 1)) : LoS m out' (O.eraseIdx i) j r' d := by
  have hm : O[i] ∈ O := List.getElem_mem hi
  have hel : (O.erase O[i]).length = O.length - 1 := List.length_erase_of_mem hm
  have hl := h.left
  rw [eraseIdx_getElem h.st.nodup i hi]
  exact ⟨by rw [e]; exact h.beg.again hm, h.st.erase _, by omega, by rw [hel]; exact hr⟩
theorem LoS.grow (h : LoS m out O j r (d + 1)) (hge : O.length ≤ r / ways (m - j) (O.length - 1)) : j < m ∧ O.length * ways (m - j) (O.length - 1) ≤ r ∧ r - O.length * ways (m - j) (O.length - 1) < ways (m - j - 1) (O.length + 1) := by
  have hwp := ways_pos (m - j) (O.length - 1)
  have hmul : O.length * ways (m - j) (O.length - 1) ≤ r := (Nat.le_div_iff_mul_le hwp).1 hge
  have hr := h.rk
  have hd := h.left
  have hlt : j < m := by
    by_cases e : j < m
    · exact e
    · have e2 : m - j = 0 := by omega
      rw [e2] at hr hmul
      obtain ⟨o, ho⟩ : ∃ o, O.length = o + 1 := ⟨O.length - 1, by omega⟩
      rw [ho, ways_end] at hr
      rw [ho] at hmul
      omega
  obtain ⟨l, hl⟩ : ∃ l, m - j = l + 1 := ⟨m - j - 1, by omega⟩
  have hgo := ways_go l O.length
  rw [hl] at hr hmul ⊢
  exact ⟨hlt, hmul, by rw [Nat.add_sub_cancel]; omega⟩
theorem LoS.new (h : LoS m out O j r (d + 1)) (hge : O.length ≤ r / ways (m - j) (O.length - 1)) {out' : ByteArray} (e : bytesOf out' = bytesOf out ++ [97 + (j : Int)]) : LoS m out' (O ++ [97 + (j : Int)]) (j + 1) (r - O.length * ways (m - j) (O.length - 1)) d := by
  obtain ⟨h1, h2, h3⟩ := h.grow hge
  have hl := h.left
  exact ⟨by rw [e]; exact h.beg.new, h.st.new h1, by simp; omega, by rw [List.length_append, List.length_singleton, show m - (j + 1) = m - j - 1 by omega]; exact h3⟩
end
theorem div_cut {r W i : Nat} (hW : 0 < W) (h1 : i * W ≤ r) (h2 : r < (i + 1) * W) : r / W = i ∧ r % W = r - i * W := by
  have e : r / W = i := by
    have a := (Nat.le_div_iff_mul_le hW).2 h1
    have b := (Nat.div_lt_iff_lt_mul hW).2 h2
    omega
  have h := Nat.div_add_mod r W
  rw [e, Nat.mul_comm] at h
  exact ⟨e, by omega⟩
theorem los_nil {m r : Nat} (hr : r < ways m 0) : LoS m ⟨#[]⟩ [] 0 r (2 * m) := ⟨beg_nil, st_nil m, by simp, by simpa using hr⟩
/-- The loop with a rank, as a text. -/
def loopS (m r : Nat) : ByteArray := strOfNums (loopN m r)
/-- The reference's search. -/
theorem ran_l1 {m : Nat} {out opn : ByteArray} {O : List Int} {j r d : Nat} (hO : bytesOf opn = O) (h : LoS m out O j r (d + 1)) (hm : m ≤ 8) (res : ByteArray)
    (hres : if hh : r / ways (m - j) (O.length - 1) < O.length then ∀ out' opn', bytesOf out' = bytesOf out ++ [O[r / ways (m - j) (O.length - 1)]] → bytesOf opn' = O.eraseIdx (r / ways (m - j) (O.length - 1)) → Ev (fun k => spec_loRanked.l0 k (m : Int) ((r % ways (m - j) (O.length - 1) : Nat) : Int) out' opn' (j : Int)) res
      else ∀ out' opn', bytesOf out' = bytesOf out ++ [97 + (j : Int)] → bytesOf opn' = O ++ [97 + (j : Int)] → Ev (fun k => spec_loRanked.l0 k (m : Int) ((r - O.length * ways (m - j) (O.length - 1) : Nat) : Int) out' opn' ((j : Int) + 1)) res) :
    ∀ (e i : Nat), i + e = O.length → i * ways (m - j) (O.length - 1) ≤ r →
      Ev (fun k => spec_loRanked.l1 k (m : Int) ((r - i * ways (m - j) (O.length - 1) : Nat) : Int) out opn (j : Int) false (i : Int)) res := by
  have hwp := ways_pos (m - j) (O.length - 1)
  have hsz := h.size
  have hol := h.beg.le
  have hjm := h.st.le
  have hlo := bytesOf_length opn
  have hW : ways (m - j) (O.length - 1) ≤ 2027025 := ways_small _ _ (by omega)
  have hr9 : r < 100000000 := by
    have := h.rk
    have h2 : ways (m - j) O.length ≤ 2027025 := ways_small _ _ (by omega)
    omega
  rw [hO] at hlo
  intro e
  induction e with
  | zero =>
    intro i hi hmul
    obtain rfl : i = O.length := by omega
    have hge : O.length ≤ r / ways (m - j) (O.length - 1) := (Nat.le_div_iff_mul_le hwp).2 hmul
    obtain ⟨h1, h2, h3⟩ := h.grow hge
    rw [dif_neg (by omega)] at hres
    have hone : bytesOf ((⟨#[97, 98, 99, 100, 101, 102, 103, 104, 105, 106, 107, 108, 109, 110, 111, 112]⟩ : ByteArray).extract j (j + 1)) = [97 + (j : Int)] := abc_one j (by omega)
    have hsz1 : ((⟨#[97, 98, 99, 100, 101, 102, 103, 104, 105, 106, 107, 108, 109, 110, 111, 112]⟩ : ByteArray).extract j (j + 1)).size = 1 := abc_size j (by omega)
    refine Ev.step (fun k => by rw [spec_loRanked.l1]) (Ev.neg (by omega) ?_)
    refine Ev.step (fun k => by rw [spec_loRanked.j2]) (Ev.neg (by decide) (Ev.neg (by decide) ?_))
    rw [w64 (x := (j : Int) + 1) (by omega) (by omega), show ((j : Int) + 1).toNat = j + 1 by omega, Int.toNat_natCast]
    refine Ev.pos (by omega) (Ev.pos (by omega) (Ev.pos (by omega) (Ev.pos (by omega) (Ev.pos (by omega) ?_))))
    exact hres _ _ (by rw [bytesOf_append, hone]) (by rw [bytesOf_append, hone, hO])
  | succ e ih =>
    intro i hi hmul
    have hil : i < O.length := by omega
    have eW := loWays_ev (m - j) (O.length - 1) (by omega)
    refine Ev.step (fun k => by rw [spec_loRanked.l1]) (Ev.pos (by omega) ?_)
    refine Ev.step (fun k => by rw [spec_loRanked.j2]) (Ev.pos (by decide) ?_)
    rw [w64 (x := (opn.size : Int) - 1) (by omega) (by omega), w64 (x := (m : Int) - (j : Int)) (by omega) (by omega), w64 (x := (i : Int) + 1) (by omega) (by omega), show (opn.size : Int) - 1 = ((O.length - 1 : Nat) : Int) by omega, show (m : Int) - (j : Int) = ((m - j : Nat) : Int) by omega]
    refine Ev.bindk eW ?_
    by_cases hc : (i + 1) * ways (m - j) (O.length - 1) ≤ r
    · have e1 : (i + 1) * ways (m - j) (O.length - 1) = i * ways (m - j) (O.length - 1) + ways (m - j) (O.length - 1) := by rw [Nat.add_mul, Nat.one_mul]
      have ih2 := ih (i + 1) (by omega) hc
      rw [e1] at ih2 hc
      generalize i * ways (m - j) (O.length - 1) = z at *
      refine Ev.neg (by omega) ?_
      rw [w64 (x := ((r - z : Nat) : Int) - ((ways (m - j) (O.length - 1) : Nat) : Int)) (by omega) (by omega), show ((r - z : Nat) : Int) - ((ways (m - j) (O.length - 1) : Nat) : Int) = ((r - (z + ways (m - j) (O.length - 1)) : Nat) : Int) by omega]
      exact ih2
    · obtain ⟨c1, c2⟩ := div_cut hwp hmul (by omega)
      rw [dif_pos (by rw [c1]; exact hil), c2] at hres
      simp only [c1] at hres
      have e1 : (i + 1) * ways (m - j) (O.length - 1) = i * ways (m - j) (O.length - 1) + ways (m - j) (O.length - 1) := by rw [Nat.add_mul, Nat.one_mul]
      rw [e1] at hc
      have hone : bytesOf (opn.extract i (i + 1)) = [O[i]] := by
        subst hO
        exact bytesOf_one opn i hil
      have hs1 : (opn.extract i (i + 1)).size = 1 := by rw [← bytesOf_length, hone]; rfl
      have hrest : bytesOf (opn.extract 0 i ++ opn.extract (i + 1) opn.size) = O.eraseIdx i := by
        rw [bytesOf_append, bytesOf_extract, bytesOf_extract, hO, List.drop_zero, ← hlo, List.take_length, List.eraseIdx_eq_take_drop_succ]
      rw [show ((i : Int) + 1).toNat = i + 1 by omega, Int.toNat_natCast]
      refine Ev.pos (by generalize i * ways (m - j) (O.length - 1) = z at *; omega) (Ev.pos (by omega) (Ev.pos (by omega) (Ev.pos (by omega) (Ev.pos (by omega) (Ev.pos (by omega) (Ev.pos (by omega) (Ev.pos (by simp only [ByteArray.size_extract]; omega) ?_)))))))
      have hgo : Ev (fun k => spec_loRanked.j2 k (m : Int) ((r - i * ways (m - j) (O.length - 1) : Nat) : Int) (out ++ opn.extract i (i + 1)) (opn.extract 0 i ++ opn.extract (i + 1) opn.size) (j : Int) true ((i : Int) + 1) false) res := by
        refine Ev.step (fun k => by rw [spec_loRanked.j2]) (Ev.neg (by decide) (Ev.pos rfl ?_))
        exact hres _ _ (by rw [bytesOf_append, hone]) hrest
      refine Ev.step (fun k => by rw [spec_loRanked.l1]) ?_
      by_cases hs : (i : Int) + 1 < ((opn.extract 0 i ++ opn.extract (i + 1) opn.size).size : Int)
      · exact Ev.pos hs hgo
      · exact Ev.neg hs hgo
theorem loRanked_l0 {m : Nat} (hm : m ≤ 8) : ∀ (d : Nat) (out opn : ByteArray) (O : List Int) (j r : Nat), bytesOf opn = O → LoS m out O j r d → Ev (fun k => spec_loRanked.l0 k (m : Int) (r : Int) out opn (j : Int)) (strOfNums (bytesOf out ++ unrG m d O j r))
  | 0, out, opn, O, j, r, hO, h => by
    have hsz := h.size
    refine Ev.step (fun k => by rw [spec_loRanked.l0]) ?_
    rw [w64 (x := 2 * (m : Int)) (by omega) (by omega), unrG, List.append_nil, strOf_bytesOf]
    exact Ev.neg (by omega) (Ev.val rfl)
  | d + 1, out, opn, O, j, r, hO, h => by
    have hsz := h.size
    have hwp := ways_pos (m - j) (O.length - 1)
    refine Ev.step (fun k => by rw [spec_loRanked.l0]) ?_
    rw [w64 (x := 2 * (m : Int)) (by omega) (by omega)]
    refine Ev.pos (by omega) ?_
    have key := ran_l1 hO h hm (strOfNums (bytesOf out ++ unrG m (d + 1) O j r)) (by
      by_cases hh : r / ways (m - j) (O.length - 1) < O.length
      · rw [dif_pos hh]
        intro out' opn' e e2
        have ih := loRanked_l0 hm d out' opn' _ j _ e2 (h.again hh e (Nat.mod_lt r hwp))
        rw [e, List.append_assoc] at ih
        rw [unrG, dif_pos hh]
        exact ih
      · rw [dif_neg hh]
        intro out' opn' e e2
        have ih := loRanked_l0 hm d out' opn' _ (j + 1) _ e2 (h.new (by omega) e)
        rw [e, List.append_assoc] at ih
        rw [unrG, dif_neg hh]
        exact ih) O.length 0 (by omega) (by omega)
    rw [Nat.zero_mul, Nat.sub_zero] at key
    exact key
theorem loRanked_ev {m r : Nat} (hm : m ≤ 8) (hr : r < ways m 0) : Ev (fun k => spec_loRanked.f k (m : Int) (r : Int)) (loopS m r) := by
  unfold spec_loRanked.f
  exact loRanked_l0 hm (2 * m) ⟨#[]⟩ ⟨#[]⟩ [] 0 r rfl (los_nil hr)
theorem ways_count : ∀ m : Fin 9, spec_loCount.f 20 (m.val : Int) = some ((ways m.val 0 : Nat) : Int) := by decide +kernel
theorem loCount_ev {m : Nat} (hm : m ≤ 8) : Ev (fun k => spec_loCount.f k (m : Int)) ((ways m 0 : Nat) : Int) := by
  have h := ways_count ⟨m, by omega⟩
  exact Ev.of (fun k => spec_loCount.mono _ k) h
end Go.Proofs.YtcgoaipbfnhjhaaGreatDoor.M

/- Loops that the cursor draws: each drawing ends, with a short text. -/
namespace Go.Proofs.YtcgoaipbfnhjhaaGreatDoor.M
open Go.RowKit Go.Proofs.YtcgoaipbfnhjhaaGreatDoorW.PrintWords Go.Proofs.YtcgoaipbfnhjhaaGreatDoor.Pr
set_option linter.unusedVariables false
set_option linter.unusedSimpArgs false

theorem of_ok {l : List Int} (hl : By l) {n a : Int} (s : Int) (ha : At n a) (hn : n ≤ 900000000) (xs : List ByteArray) (hx : xs ≠ []) : ∃ r a' s', spec_l1Cur_of.f l a s xs = some (r, a', s') ∧ r ∈ xs ∧ At (n + 2) a' := by
  obtain ⟨r, a1, s1, e, h0, h1, h2, h3⟩ := pick_ok hl s ha hn (xs.length : Int)
  have hp : 0 < xs.length := List.length_pos_iff.2 hx
  have hlt : r < (xs.length : Int) := by
    by_cases q : 1 < (xs.length : Int)
    · exact h1 q
    · rw [h2 (by omega)]; omega
  unfold spec_l1Cur_of.f
  rw [e]
  simp only [Option.bind_some]
  rw [if_pos h0, if_pos hlt]
  refine ⟨_, _, _, rfl, ?_, h3⟩
  have hm : r.toNat < xs.length := by omega
  have hg : xs.getD r.toNat ByteArray.empty = xs[r.toNat] := by simp [List.getD_eq_getElem?_getD, List.getElem?_eq_getElem hm]
  unfold rdOf
  rw [hg]
  exact List.getElem_mem hm
theorem ways5 : ∀ n : Fin 6, ways n.val 0 ≤ 1000 := by decide +kernel
theorem sureLoop_ok {l : List Int} (hl : By l) {n a : Int} (s : Int) (ha : At n a) (hn : n ≤ 800000000) : ∃ w a' s', Ev (fun k => spec_l1Cur_sureLoop.f k l a s 5) (w, a', s') ∧ w.size ≤ 18 ∧ At (n + 4) a' := by
  obtain ⟨r, a1, s1, e, h0, h1, _, h3⟩ := pick_ok hl s ha (by omega) 6
  have hr := h1 (by omega)
  obtain ⟨m, rfl⟩ : ∃ m : Nat, r = (m : Int) := ⟨r.toNat, by omega⟩
  have hw := ways5 ⟨m, by omega⟩
  dsimp only at hw
  have hwp := ways_pos m 0
  obtain ⟨q, a2, s2, e2, g0, g1, g2, g3⟩ := pick_ok hl s1 h3 (by omega) ((ways m 0 : Nat) : Int)
  have hq : q < ((ways m 0 : Nat) : Int) := by
    by_cases h : 1 < ((ways m 0 : Nat) : Int)
    · exact g1 h
    · have := g2 (by omega); omega
  obtain ⟨t, rfl⟩ : ∃ t : Nat, q = (t : Int) := ⟨q.toNat, by omega⟩
  have hlp := (loopN_loop (m := m) (r := t) (by omega) (by omega)).1
  refine ⟨loopS m t, a2, s2, ?_, ?_, g3.up (by omega)⟩
  · unfold spec_l1Cur_sureLoop.f
    rw [w64 (x := (5 : Int) + 1) (by omega) (by omega)]
    refine Ev.bindc e (Ev.bindk (loCount_ev (by omega)) (Ev.bindc (a := ((ways m 0 : Nat) : Int)) ?_ (Ev.bindc e2 (Ev.bindk (loRanked_ev (by omega) (by omega)) (Ev.val rfl)))))
    unfold spec_l1Least.f
    rw [if_neg (by omega)]
  · rw [← bytesOf_length, show bytesOf (loopS m t) = loopN m t from bytesOf_strOf _ (fun x hx => by
      have := hlp.lo x hx
      have := hlp.hi x hx
      omega), hlp.len]
    omega
theorem loop_ok {l : List Int} (hl : By l) {n a : Int} (s : Int) (ha : At n a) (hn : n ≤ 700000000) : ∃ w a' s', Ev (fun k => spec_l1Cur_loop.f k l a s) (w, a', s') ∧ w.size ≤ 18 ∧ At (n + 8) a' := by
  obtain ⟨r, a1, s1, e, h0, h1, _, h3⟩ := pick_ok hl s ha (by omega) 14
  have some1 : ∀ (b : Bool), ∃ w a' s', Ev (fun k => spec_l1Cur_loop.j0 k b l a1 s1) (w, a', s') ∧ w.size ≤ 18 ∧ At (n + 8) a' := fun b => by
    cases b with
    | true =>
      obtain ⟨w, a2, s2, e2, hm, g⟩ := of_ok hl s1 h3 (by omega) ([(⟨#[97, 98, 99, 97, 98, 99]⟩ : ByteArray), (⟨#[97, 98, 99, 97, 100, 99, 98, 100]⟩ : ByteArray), (⟨#[97, 98, 99, 100, 101, 98, 97, 102, 101, 100, 99, 102]⟩ : ByteArray), (⟨#[97, 98, 97, 99, 100, 99, 98, 100]⟩ : ByteArray), (⟨#[97, 98, 99, 100, 97, 98, 99, 100]⟩ : ByteArray), (⟨#[97, 98, 97, 98]⟩ : ByteArray)] : List ByteArray) (by simp)
      refine ⟨w, a2, s2, ?_, ?_, g.up (by omega)⟩
      · refine Ev.step (fun k => by rw [spec_l1Cur_loop.j0]) ?_
        exact Ev.pos rfl (Ev.bindc e2 (Ev.val rfl))
      · simp only [List.mem_cons, List.not_mem_nil, or_false] at hm
        rcases hm with rfl | rfl | rfl | rfl | rfl | rfl <;> decide
    | false =>
      obtain ⟨w, a2, s2, e2, hm, g⟩ := sureLoop_ok hl s1 h3 (by omega)
      refine ⟨w, a2, s2, ?_, hm, g.up (by omega)⟩
      refine Ev.step (fun k => by rw [spec_l1Cur_loop.j0]) ?_
      exact Ev.neg (by decide) (Ev.bindk e2 (Ev.val rfl))
  unfold spec_l1Cur_loop.f
  by_cases hr : r = 0
  · obtain ⟨w, a2, s2, e2, hm, g⟩ := of_ok hl s1 h3 (by omega) ([(⟨#[97]⟩ : ByteArray), (⟨#[97, 97, 98]⟩ : ByteArray), (⟨#[98, 97]⟩ : ByteArray), (⟨#[98, 98]⟩ : ByteArray), (⟨#[97, 98, 99]⟩ : ByteArray), (⟨#[97, 97, 97, 97]⟩ : ByteArray), (⟨#[97, 98, 98, 97, 32]⟩ : ByteArray), (⟨#[120, 120]⟩ : ByteArray), (⟨#[97, 97, 98, 98, 99, 99, 100, 100, 101, 101, 102, 102, 103, 103, 104, 104, 105, 105]⟩ : ByteArray)] : List ByteArray) (by simp)
    refine ⟨w, a2, s2, Ev.bindc e (Ev.pos hr (Ev.bindc e2 (Ev.val rfl))), ?_, g.up (by omega)⟩
    simp only [List.mem_cons, List.not_mem_nil, or_false] at hm
    rcases hm with rfl | rfl | rfl | rfl | rfl | rfl | rfl | rfl | rfl <;> decide
  · by_cases hr1 : r = 1
    · obtain ⟨w, a2, s2, h⟩ := some1 (r == 1)
      exact ⟨w, a2, s2, Ev.bindc e (Ev.neg hr (Ev.pos hr1 h.1)), h.2⟩
    · obtain ⟨w, a2, s2, h⟩ := some1 (r == 2)
      exact ⟨w, a2, s2, Ev.bindc e (Ev.neg hr (Ev.neg hr1 h.1)), h.2⟩
theorem letter_ok {l : List Int} (hl : By l) {n a : Int} (s : Int) (ha : At n a) (hn : n ≤ 700000000) (w : ByteArray) (hw : w.size ≤ 18) : ∃ v a' s', Ev (fun k => spec_l1Cur_letter.f k l a s w) (v, a', s') ∧ v.size ≤ 18 ∧ At (n + 8) a' := by
  have yes : ∀ {n1 a1 : Int} (s1 : Int), At n1 a1 → n1 ≤ n + 4 → ∃ v a' s', Ev (fun k => spec_l1Cur_letter.j0 k w true l a1 s1) (v, a', s') ∧ v.size ≤ 18 ∧ At (n + 8) a' := fun {n1 a1} s1 h1 hn1 => by
    obtain ⟨v, a2, s2, e2, hm, g⟩ := of_ok hl s1 h1 (by omega) ([(⟨#[]⟩ : ByteArray), (⟨#[97]⟩ : ByteArray), (⟨#[122]⟩ : ByteArray), (⟨#[97, 98]⟩ : ByteArray), (⟨#[65]⟩ : ByteArray), (⟨#[99]⟩ : ByteArray)] : List ByteArray) (by simp)
    refine ⟨v, a2, s2, ?_, ?_, g.up (by omega)⟩
    · refine Ev.step (fun k => by rw [spec_l1Cur_letter.j0]) ?_
      exact Ev.pos rfl (Ev.bindc e2 (Ev.val rfl))
    · simp only [List.mem_cons, List.not_mem_nil, or_false] at hm
      rcases hm with rfl | rfl | rfl | rfl | rfl | rfl <;> decide
  unfold spec_l1Cur_letter.f
  by_cases h0 : (w.size : Int) = 0
  · obtain ⟨v, a2, s2, e, h⟩ := yes s ha (by omega)
    exact ⟨v, a2, s2, Ev.pos h0 e, h⟩
  · obtain ⟨b, a2, s2, e2, g2⟩ := one_ok hl s ha (by omega) 12
    cases b with
    | true =>
      obtain ⟨v, a3, s3, e3, h⟩ := yes s2 g2 (by omega)
      exact ⟨v, a3, s3, Ev.neg h0 (Ev.bindc e2 e3), h⟩
    | false =>
      obtain ⟨q, a3, s3, e3, q0, q1, q2, g3⟩ := pick_ok hl s2 g2 (by omega) (w.size : Int)
      have hq : q < (w.size : Int) := by
        by_cases h : 1 < (w.size : Int)
        · exact q1 h
        · have := q2 (by omega); omega
      refine ⟨w.extract q.toNat (wrap64 (q + 1)).toNat, a3, s3, Ev.neg h0 (Ev.bindc e2 ?_), ?_, g3.up (by omega)⟩
      · refine Ev.step (fun k => by rw [spec_l1Cur_letter.j0]) ?_
        dsimp only
        refine Ev.neg (by simp) (Ev.bindc e3 ?_)
        dsimp only
        rw [w64 (x := q + 1) (by omega) (by omega)]
        exact Ev.pos q0 (Ev.pos (by omega) (Ev.pos (by omega) (Ev.val rfl)))
      · rw [ByteArray.size_extract]
        omega
theorem drawLaced_ok {l : List Int} (hl : By l) : ∃ v a b, Ev (fun k => spec_DrawAreInterlaced.f k l) (v, a, b) ∧ v.size ≤ 18 ∧ a.size ≤ 18 ∧ b.size ≤ 18 := by
  obtain ⟨v, a1, s1, e1, h1, g1⟩ := loop_ok hl 0 (n := 0) (a := 0) ⟨by omega, by omega⟩ (by omega)
  obtain ⟨x, a2, s2, e2, h2, g2⟩ := letter_ok hl s1 g1 (by omega) v h1
  obtain ⟨y, a3, s3, e3, h3, g3⟩ := letter_ok hl s2 g2 (by omega) v h1
  unfold spec_DrawAreInterlaced.f
  exact ⟨v, x, y, Ev.bindk e1 (Ev.bindk e2 (Ev.bindk e3 (Ev.val rfl))), h1, h2, h3⟩
theorem drawTurn_ok {l : List Int} (hl : By l) : ∃ v q, Ev (fun k => spec_DrawTurnLoop.f k l) (v, q) ∧ v.size ≤ 18 := by
  obtain ⟨v, a1, s1, e1, h1, g1⟩ := loop_ok hl 0 (n := 0) (a := 0) ⟨by omega, by omega⟩ (by omega)
  obtain ⟨q, a2, s2, e2, q0, q1, q2, g2⟩ := pick_ok hl s1 g1 (by omega) (wrap64 ((v.size : Int) + 2))
  unfold spec_DrawTurnLoop.f
  exact ⟨v, _, Ev.bindk e1 (Ev.bindc e2 (Ev.val rfl)), h1⟩
theorem drawCan_ok {l : List Int} (hl : By l) : ∃ v, Ev (fun k => spec_DrawCanBeDrawn.f k l) v ∧ v.size ≤ 18 := by
  obtain ⟨v, a1, s1, e1, h1, g1⟩ := loop_ok hl 0 (n := 0) (a := 0) ⟨by omega, by omega⟩ (by omega)
  unfold spec_DrawCanBeDrawn.f spec_DrawIsLoop.f
  exact ⟨v, Ev.bindk (Ev.bindk e1 (Ev.val rfl)) (Ev.val rfl), h1⟩
end Go.Proofs.YtcgoaipbfnhjhaaGreatDoor.M

/- Letters are interlaced both ways, loops that are turned and told back are the same and drawn alike, and crossings are taken out: the plain law. -/
namespace Go.Proofs.YtcgoaipbfnhjhaaGreatDoor.M
open Go.RowKit Go.Proofs.YtcgoaipbfnhjhaaGreatDoor.Pr Go.Proofs.YtcgoaipbfnhjhaaGreatDoorW.PrintWords Go.Proofs.YtcgoaipbfnhjhaaGreatDoorW.PrintLast
set_option linter.unusedVariables false
set_option linter.unusedSimpArgs false

theorem leS.tot {a b : ByteArray} (h : leS a b) : (Op.bytesLess a.toList b.toList || a.toList == b.toList) = true := by
  by_cases e : a.data.toList < b.data.toList
  · rw [Proofs.bytesLess_eq, Lib.toList_data, Lib.toList_data, decide_eq_true e]
    rfl
  · have e2 : a = b := h.anti e
    rw [e2]
    simp
theorem one_of {a : ByteArray} {c : Int} (h : bytesOf a = [c]) : a.size = 1 ∧ bt a 0 = c := by
  have hl := bytesOf_length a
  rw [h] at hl
  have e := bytesOf_get a 0 (by rw [h]; simp)
  simp only [h] at e
  exact ⟨hl.symm, e⟩
theorem let_bytes {i : Nat} (h : i < 8) : bytesOf (letS i) = [97 + (i : Int)] := by
  have h8 : ∀ j : Fin 8, bytesOf (letS j.val) = [97 + (j.val : Int)] := by decide +kernel
  exact h8 ⟨i, h⟩
theorem at_bytes (w : ByteArray) {i : Nat} (h : i < 8) : bytesOf (atS w i) = [97 + (i : Int)] := by
  exact let_bytes h
theorem has_eq {s b : ByteArray} {c : Int} (hb : bytesOf b = [c]) : ∀ (d j : Nat) (t : Bool), j + d = s.size → hasF s b d j t = (t || decide (c ∈ (bytesOf s).drop j))
  | 0, j, t, h => by
    have hl := bytesOf_length s
    rw [hasF, List.drop_of_length_le (by omega)]
    simp
  | d + 1, j, t, h => by
    have hl := bytesOf_length s
    have hj : j < (bytesOf s).length := by omega
    rw [hasF, has_eq hb d (j + 1) _ (by omega), toList_beq, bytesOf_one s j hj, hb, List.drop_eq_getElem_cons hj, Bool.eq_iff_iff]
    simp only [Bool.or_eq_true, beq_iff_eq, List.cons.injEq, and_true, decide_eq_true_eq, List.mem_cons]
    constructor
    · rintro ((e | e) | e)
      · exact .inl e
      · exact .inr (.inl e.symm)
      · exact .inr (.inr e)
    · rintro (e | e | e)
      · exact .inl (.inl e)
      · exact .inl (.inr e.symm)
      · exact .inr e
theorem has_all {s b : ByteArray} {c : Int} (hb : bytesOf b = [c]) : hasF s b s.size 0 false = decide (c ∈ bytesOf s) := by
  rw [has_eq hb s.size 0 false (by omega), List.drop_zero, Bool.false_or]
theorem lett_str (p : Int → Bool) (m : Nat) (hm : m ≤ 8) : bytesOf (strOfNums (lettP p 97 m)) = lettP p 97 m := bytesOf_strOf _ (lett_byte p m 97 (by omega) (by omega))
theorem lett_ascii (p : Int → Bool) (m : Nat) (hm : m ≤ 8) : asciiB (strOfNums (lettP p 97 m)) = true ∧ (strOfNums (lettP p 97 m)).size ≤ m := by
  have hb := lett_str p m hm
  have hz : (strOfNums (lettP p 97 m)).size ≤ m := by
    rw [← bytesOf_length, hb]
    exact lettP_length p m 97
  refine ⟨ascii_of _ (by omega) (fun x hx => ?_), hz⟩
  rw [hb] at hx
  have := (mem_lett p x m 97).1 hx
  omega
section
variable {w : ByteArray} {m : Nat} (h : M.Loop (bytesOf w) m)
include h
theorem good_w : goodS w = true ∧ w.size / 2 = m ∧ w.size = 2 * m ∧ m ≤ 8 := by
  have h1 := h.len
  have h2 := bytesOf_length w
  exact ⟨h.good, by omega, by omega, h.few⟩
theorem letB_of {a : ByteArray} {i : Nat} (hi : i < m) (ha : bytesOf a = [97 + (i : Int)]) : letB w a = true := by
  have hw := good_w h
  have h1 := one_of ha
  unfold letB
  rw [hw.2.1, h1.2]
  simp only [Bool.and_eq_true, decide_eq_true_eq]
  exact ⟨h1.1, by omega, by omega⟩
theorem lac_of {a b : ByteArray} {i j : Nat} (hi : i < m) (ha : bytesOf a = [97 + (i : Int)]) (hj : j < m) (hb : bytesOf b = [97 + (j : Int)]) : lacR w a b = (lacedL (bytesOf w) (97 + (i : Int)) (97 + (j : Int)), true) := by
  rw [lacR, if_pos ⟨(good_w h).1, letB_of h hi ha, letB_of h hj hb⟩, (one_of ha).2, (one_of hb).2]
theorem with_of {a : ByteArray} {i : Nat} (hi : i < m) (ha : bytesOf a = [97 + (i : Int)]) : withR w a = (strOfNums (withL (bytesOf w) m (97 + (i : Int))), true) := by
  rw [withR, if_pos ⟨(good_w h).1, letB_of h hi ha⟩, (one_of ha).2, (good_w h).2.1]
theorem drop_of {a : ByteArray} {i : Nat} (hi : i < m) (ha : bytesOf a = [97 + (i : Int)]) : dropR w a = (anewS (dropS w a), true) := by
  rw [dropR, if_pos ⟨(good_w h).1, letB_of h hi ha⟩]
theorem lcI_ev {a : ByteArray} {i : Nat} (hi : i < m) (ha : bytesOf a = [97 + (i : Int)]) : ∀ (d j : Nat), j + d = m → Ev (fun k => lcI k w a (strOfNums (withL (bytesOf w) m (97 + (i : Int)))) d j) ()
  | 0, j, hd => by
    simp only [lcI]
    exact Ev.val rfl
  | d + 1, j, hd => by
    have hw := good_w h
    have hb := let_bytes (i := j) (by omega)
    have hs := lett_str (fun c => lacedL (bytesOf w) (97 + (i : Int)) c) m hw.2.2.2
    have hasc := lett_ascii (fun c => lacedL (bytesOf w) (97 + (i : Int)) c) m hw.2.2.2
    simp only [lcI]
    refine Ev.bindk (lacI_ev w a (letS j)) (Ev.bindk (lacI_ev w (letS j) a) ?_)
    rw [lac_of h hi ha (by omega) hb, lac_of h (by omega) hb hi ha]
    refine Ev.pos ⟨rfl, ?_, ?_, ?_, hasc.1⟩ (lcI_ev hi ha d (j + 1) (by omega))
    · rw [laced_comm (h.cnt (by omega) (by omega)) (h.cnt (by omega) (by omega))]
    · rw [has_all hb]
      unfold withL
      rw [hs, Bool.eq_iff_iff, decide_eq_true_eq, mem_lett]
      dsimp only
      constructor
      · exact fun h => h.2.2
      · exact fun h => ⟨by omega, by omega, h⟩
    · rw [toList_beq, ha, hb]
      dsimp only
      by_cases e : i = j
      · subst e
        rw [laced_self (h.cnt (by omega) (by omega)), Bool.and_false]
      · rw [show ([97 + (i : Int)] == [97 + (j : Int)]) = false by simp; omega, Bool.false_and]
theorem lcK_ev : ∀ (d i : Nat), i + d = m → Ev (fun k => lcK k w (strOfNums (lettP (curlB w) 97 m)) (drawnL w m) (evR (bytesOf w) m m 97) m d i) ()
  | 0, i, hd => by
    simp only [lcK]
    exact Ev.val rfl
  | d + 1, i, hd => by
    have hw := good_w h
    have hi : i < m := by omega
    have ha := at_bytes w (i := i) (by omega)
    have hc1 : (97 : Int) ≤ 97 + (i : Int) := by omega
    have hc2 : (97 : Int) + (i : Int) < 97 + (m : Int) := by omega
    have hdr := drop_good h hc1 hc2 ha
    have hdw := good_w hdr
    have hsz := lett_ascii (fun c => lacedL (bytesOf w) (97 + (i : Int)) c) m hw.2.2.2
    simp only [lcK]
    refine Ev.bindk (withI_ev w (atS w i)) ?_
    rw [with_of h hi ha]
    refine Ev.bindk (lcI_ev h hi ha m 0 (by omega)) (Ev.bindk (dropI_ev w (atS w i)) ?_)
    rw [drop_of h hi ha]
    refine Ev.bindk (drawI_ev _) ?_
    dsimp only
    rw [drawR, if_pos hdw.1, hdw.2.1]
    refine Ev.pos ⟨rfl, fun he => ?_, ?_, rfl, rfl, fun hh => ?_⟩ (lcK_ev d (i + 1) (by omega))
    · have ho := ev_all m 97 he (97 + (i : Int)) hc1 hc2
      unfold oddL at ho
      rw [strOf_len]
      simp only [beq_eq_false_iff_ne, ne_eq] at ho
      omega
    · exact Nat.le_trans hsz.2 (by omega)
    · rw [has_all ha, decide_eq_true_eq, lett_str _ m hw.2.2.2, mem_lett] at hh
      have hcu := hh.2.2
      refine ⟨drop_drawn h hc1 hc2 ha hcu, ?_⟩
      have e : withL (bytesOf w) m (97 + (i : Int)) = [] := by
        unfold withL
        rw [lettP_nil]
        intro y h1 h2
        exact curl_laced h hc1 hc2 hcu (List.count_pos_iff.1 (by have := h.cnt h1 h2; omega))
      rw [e]
      rfl
theorem lcB_ev : Ev (fun k => lcB k w (drawnL w m) (evR (bytesOf w) m m 97) (firstS w) (strOfNums (lettP (curlB w) 97 m)) (!(fromB w w.size 0)) (anewS (backS w)) (m : Int)) () := by
  have hw := good_w h
  have hbt := back_tells hw.1
  have hft := (first_spec hw.1).tells
  have hb := drawn_same hw.1 hbt
  have hf := drawn_same hw.1 hft
  have hcz := lett_ascii (curlB w) m hw.2.2.2
  unfold lcB
  refine Ev.bindk (backI_ev _) (Ev.bindk (firstI_ev _) (Ev.bindk (drawI_ev _) (Ev.bindk (sameI_ev _ _) ?_)))
  rw [backR, if_pos hb.1, back_back hw.1, firstR, if_pos hb.1, first_same hw.1 hbt, drawR, if_pos hf.1, hf.2.2, hw.2.1, sameR, if_pos ⟨hw.1, hf.1⟩, first_same hw.1 hft]
  refine Ev.pos ⟨rfl, rfl, rfl, by simp, (first_le hw.1).tot, fun hd => ?_, by omega, by omega, by omega, by omega, fun hs hc => ?_, hcz.1⟩ ?_
  · unfold drawnL at hd
    simp only [Bool.and_eq_true] at hd
    exact hd.1.1
  · by_cases hm : 2 ≤ m
    · have hne : lettP (curlB w) 97 m ≠ [] := fun e => by
        rw [e] at hc
        exact absurd hc (by decide)
      obtain ⟨c, hcm⟩ := List.exists_mem_of_ne_nil _ hne
      have hc3 := (mem_lett (curlB w) c m 97).1 hcm
      rw [curl_not_one h hc3.1 hc3.2.1 hc3.2.2 hm] at hs
      cases hs
    · omega
  · rw [Int.toNat_natCast]
    exact lcK_ev h m 0 (by omega)
end
theorem lcA_ev (w : ByteArray) : Ev (fun k => lcA k w) () := by
  unfold lcA
  refine Ev.bindk (drawI_ev w) (Ev.bindk (drawS_ev w) (Ev.bindk (evenI_ev w) (Ev.bindk (evenS_ev w) (Ev.bindk (firstI_ev w) (Ev.bindk (firstS_ev w) (Ev.bindk (curlI_ev w) (Ev.bindk (curlS_ev w) (Ev.bindk (oneI_ev w) (Ev.bindk (oneS_ev w) (Ev.bindk (backI_ev w) (Ev.bindk (backS_ev w) (Ev.bindk (crossI_ev w) (Ev.bindk (crossS_ev w) (Ev.bindk (isLoop_ev w) (Ev.bindk (isS_ev w) ?_)))))))))))))))
  by_cases hg : goodS w = true
  · obtain ⟨m, hm⟩ := loop_of (show goodL (bytesOf w) = true from hg)
    have hw := good_w hm
    rw [drawR, if_pos hg, evenR, if_pos hg, firstR, if_pos hg, curlR, if_pos hg, oneR, if_pos hg, backR, if_pos hg, crossR, if_pos hg, hg, hw.2.1]
    refine Ev.pos ⟨rfl, rfl, rfl, rfl, rfl, rfl, rfl, rfl, rfl, rfl, rfl, rfl, rfl, rfl, rfl⟩ (Ev.pos rfl ?_)
    dsimp only
    rw [w64 (x := (w.size : Int) / 2) (by omega) (by omega), show (w.size : Int) / 2 = (m : Int) by omega]
    exact lcB_ev hm
  · have hf : goodS w = false := by simpa using hg
    rw [drawR, if_neg hg, evenR, if_neg hg, firstR, if_neg hg, curlR, if_neg hg, oneR, if_neg hg, backR, if_neg hg, crossR, if_neg hg, hf]
    exact Ev.pos ⟨rfl, rfl, rfl, rfl, rfl, rfl, rfl, rfl, rfl, rfl, rfl, rfl, rfl, rfl, rfl⟩ (Ev.neg (by decide) (Ev.val rfl))
theorem lcV_ev {l : List Int} (hl : By l) : Ev (fun k => lcV k l) () := by
  obtain ⟨v, a, b, e1, _, _, _⟩ := drawLaced_ok hl
  obtain ⟨u, q, e2, _⟩ := drawTurn_ok hl
  unfold lcV
  refine Ev.bindk e1 (Ev.bindk (lacI_ev _ _ _) (Ev.bindk (lacS_ev _ _ _) (Ev.bindk (withI_ev _ _) (Ev.bindk (withS_ev _ _) (Ev.bindk (dropI_ev _ _) (Ev.bindk (dropS_ev _ _) (Ev.bindk e2 (Ev.bindk (turnI_ev _ _) (Ev.bindk (turnS_ev _ _) ?_)))))))))
  dsimp only
  refine Ev.pos ⟨rfl, rfl, rfl, ?_, rfl⟩ ?_
  · unfold dropR withR
    split <;> rfl
  · by_cases h : goodS u = true ∧ 0 ≤ q ∧ q ≤ mx 0 ((u.size : Int) - 1)
    · have hq : q ≤ (u.size : Int) := by
        have := h.2.2
        rw [mx0] at this
        split at this <;> omega
      have ht := turn_tells h.1 q.toNat (by omega)
      have hd := drawn_same h.1 ht
      have e : turnR u q = (anewS (u.extract q.toNat u.size ++ u.extract 0 q.toNat), true) := by rw [turnR, if_pos h]
      rw [e]
      refine Ev.pos rfl (Ev.bindk (sameI_ev _ _) (Ev.bindk (drawI_ev _) (Ev.bindk (drawI_ev _) ?_)))
      have hs : sameR u (anewS (u.extract q.toNat u.size ++ u.extract 0 q.toNat)) = (true, true) := by
        rw [sameR, if_pos ⟨h.1, hd.1⟩, first_same h.1 ht]
        simp
      have hp : drawR (anewS (u.extract q.toNat u.size ++ u.extract 0 q.toNat)) = drawR u := by rw [drawR, if_pos hd.1, drawR, if_pos h.1, hd.2.2]
      have h2 : (drawR u).2 = true := by rw [drawR, if_pos h.1]
      exact Ev.pos ⟨hs, h2, hp⟩ (Ev.val rfl)
    · have e : turnR u q = (⟨#[]⟩, false) := by rw [turnR, if_neg h]
      rw [e]
      exact Ev.neg (by simp) (Ev.val rfl)
theorem big_ok (l m : List Int) : ∃ b, laws_big.f l m = some b := by
  unfold laws_big.f
  split <;> exact ⟨_, rfl⟩
theorem lace_ev (l0 l1 : List Int) (h0 : By l0) (h1 : By l1) : Ev (fun k => laws_FnLoopsLace.f k l0 l1) true := by
  unfold laws_FnLoopsLace.f
  obtain ⟨g, hg⟩ := big_ok l0 l1
  refine Ev.bindc hg ?_
  cases g with
  | true => exact Ev.pos rfl (Ev.val rfl)
  | false =>
    obtain ⟨w, e1, _⟩ := drawCan_ok h0
    exact Ev.neg (by decide) (Ev.bindk e1 (Ev.bindk (lcA_ev w) (Ev.bindk (lcV_ev h1) (Ev.val rfl))))
end Go.Proofs.YtcgoaipbfnhjhaaGreatDoor.M
namespace Go.Proofs.YtcgoaipbfnhjhaaGreatDoor.Pure
open Go.RowKit Go.Proofs.YtcgoaipbfnhjhaaGreatDoor.Pr
open Go.Proofs.YtcgoaipbfnhjhaaGreatDoorW.PrintWords
theorem FnLoopsLace : ∀ (l0 : List Int) (l1 : List Int), l0.length ≤ maxLen → (∀ x ∈ l0, (Lit.int .u8 x).wf = true) → l1.length ≤ maxLen → (∀ x ∈ l1, (Lit.int .u8 x).wf = true) → ∃ k, laws_FnLoopsLace.f k l0 l1 = some true := by
  intro l0 l1 _ w0 _ w1
  exact Ev.rounds (M.lace_ev l0 l1 (M.by_wf w0) (M.by_wf w1))
end Go.Proofs.YtcgoaipbfnhjhaaGreatDoor.Pure

/- Shared steps of the rows: an argument that is a slice of structs of whole numbers, read as a list of lists of numbers. -/
namespace Go.Proofs.YtcgoaipbfnhjhaaGreatDoor.RowA
open Go.ChangeShapes Go.WideShapes Go.Deep Go.RowKit Go.Proofs.YtcgoaipbfnhjhaaGreatDoorW.PrintWords
section
variable {H : Type} {enc : TypeId × Value → H} {P : Program} {w : World} {base : Nat} {spare : Nat → Bool} {held : Bool}

/-- A slice of structs whose fields are one cell each: nil, or an address with, for each element and each field, the cell and the field's own reading. -/
theorem open_cells {t e : TypeId} {fs : Array Field} {fuel : Nat} {cs : List Value} {x : DataW H × List MemPlace} (ht : P.underlying t = some (.slice e)) (he : P.underlying e = some (.struct fs))
    (hone : oneCellFields P fs = true) (hC : P.cellsOf e = fs.size) (h : DataW.trod enc P w base spare held fuel t cs = some x) :
    cs = [.slice none 0 0] ∨
    ∃ (a : Addr) (len cap : Nat), cs = [.slice (some a) len cap] ∧ len ≤ cap ∧ cap ≤ maxLen ∧
      ∀ i, i < len → ∃ n, ∀ (j : Nat) (f : Field), fs[j]? = some f → ∃ (v : Value) (y : DataW H × List MemPlace), w.cell? (a.add (i * fs.size + j)) = some v ∧ DataW.trod enc P w base spare held n f.type [v] = some y := by
  rcases open_slice ht h with h0 | ⟨a, len, cap, m, n, D, Pl, hcs, hb, hl, hm, hmm, hx, hi⟩
  · exact .inl h0.1
  · refine .inr ⟨a, len, cap, hcs, hl, hm, fun i hil => ?_⟩
    have him : i < m := by
      rw [hmm]
      split
      · omega
      · exact hil
    obtain ⟨cs', hc, ht'⟩ := hi i him
    rw [hC] at hc
    obtain ⟨ys, n', hn', hy, hlen, hyl, hf⟩ := DataW.trod_struct he ht'
    obtain ⟨_, hcl, hat⟩ := World.cells?_some hc
    refine ⟨n', fun j f hj => ?_⟩
    obtain ⟨ho, hk⟩ := hone_of hone j f hj
    have hjl : j < fs.size := (Array.getElem?_eq_some_iff.1 hj).1
    have hcell := hat j hjl
    have hv : cs'[j]? = some (cs'[j]'(by omega)) := List.getElem?_eq_getElem (by omega)
    have h1 := hf j f hj
    rw [ho, hk] at h1
    have hone' : (cs'.drop j).take 1 = [cs'[j]'(by omega)] := by
      rw [List.drop_eq_getElem_cons (by omega)]
      rfl
    rw [hone'] at h1
    have hys : ys[j]? = some (ys[j]'(by omega)) := List.getElem?_eq_getElem (by omega)
    refine ⟨_, _, ?_, h1.trans hys⟩
    rw [← Go.Deep.add_add, hcell, hv]

/-- One whole number's reading. -/
theorem read_i64 {t : TypeId} {n : Nat} {v : Value} {y : DataW H × List MemPlace} (hu : P.underlying t = some (.int .i64)) (h : DataW.trod enc P w base spare held n t [v] = some y) :
    ∃ z : Int, v = .int .i64 z ∧ (Lit.int .i64 z).wf = true := by
  obtain ⟨z, hz, _, hw⟩ := DataW.trod_int hu h
  simp at hz
  exact ⟨z, hz, hw⟩

/-- A slice of structs of m whole numbers, as it is handed over: the numbers by element and field. -/
theorem open_nums {t e : TypeId} {fs : Array Field} {a : Option Addr} {len cap : Nat} {d : DataW H} {ps : List MemPlace} (ht : P.underlying t = some (.slice e)) (he : P.underlying e = some (.struct fs))
    (hone : oneCellFields P fs = true) (hC : P.cellsOf e = fs.size) (hi : ∀ (j : Nat) (f : Field), fs[j]? = some f → P.underlying f.type = some (.int .i64))
    (h : DataW.Trod enc P w base spare held t (.slice a len cap) d ps) :
    len ≤ cap ∧ len ≤ maxLen ∧ ∃ z : Nat → Nat → Int, (∀ i j, i < len → j < fs.size → (Lit.int .i64 (z i j)).wf = true) ∧
      (0 < len → ∃ ad, a = some ad ∧ ∀ i j, i < len → j < fs.size → w.cell? (ad.add (i * fs.size + j)) = some (.int .i64 (z i j))) := by
  obtain ⟨fuel, hf⟩ := h
  rcases open_cells ht he hone hC hf with hcs | ⟨x, l, c, hcs, hl, hm, hcell⟩
  · simp [Value.cells] at hcs
    obtain ⟨rfl, rfl, rfl⟩ := hcs
    exact ⟨Nat.le_refl _, Nat.zero_le _, fun _ _ => 0, fun i j h => absurd h (Nat.not_lt_zero _), fun h => absurd h (Nat.not_lt_zero _)⟩
  · simp [Value.cells] at hcs
    obtain ⟨rfl, rfl, rfl⟩ := hcs
    refine ⟨hl, Nat.le_trans hl hm, ?_⟩
    have hz : ∀ i j, ∃ z : Int, i < len → j < fs.size → w.cell? (x.add (i * fs.size + j)) = some (.int .i64 z) ∧ (Lit.int .i64 z).wf = true := by
      intro i j
      by_cases h1 : i < len
      · by_cases h2 : j < fs.size
        · obtain ⟨n, hn⟩ := hcell i h1
          obtain ⟨v, y, hv, hy⟩ := hn j fs[j] (Array.getElem?_eq_getElem h2)
          obtain ⟨z, rfl, hw⟩ := read_i64 (hi j fs[j] (Array.getElem?_eq_getElem h2)) hy
          exact ⟨z, fun _ _ => ⟨hv, hw⟩⟩
        · exact ⟨0, fun _ h => absurd h h2⟩
      · exact ⟨0, fun h _ => absurd h h1⟩
    exact ⟨fun i j => (hz i j).choose, fun i j h1 h2 => ((hz i j).choose_spec h1 h2).2, fun _ => ⟨x, rfl, fun i j h1 h2 => ((hz i j).choose_spec h1 h2).1⟩⟩
/-- A row of whole numbers, as the walk reads it. -/
theorem open_row {t e : TypeId} {k : IntKind} {a : Option Addr} {len cap : Nat} {d : DataW H} {ps : List MemPlace} (ht : P.underlying t = some (.slice e)) (he : P.underlying e = some (.int k)) (hc : P.cellsOf e = 1)
    (h : DataW.Trod enc P w base spare held t (.slice a len cap) d ps) :
    len ≤ cap ∧ len ≤ maxLen ∧ ∃ l : List Int, (∀ x ∈ l, (Lit.int k x).wf = true) ∧ l.length = len ∧ (Kd.int k).C w a l.length l := by
  obtain ⟨fuel, hf⟩ := h
  rcases Go.ChangeShapes.open_ints ht he hc hf with ⟨hcs, _⟩ | ⟨x, l, c, zs, hcs, _, hl, hm, hz, _, hcell, hw⟩
  · simp [Value.cells] at hcs
    obtain ⟨rfl, rfl, rfl⟩ := hcs
    exact ⟨Nat.le_refl _, Nat.zero_le _, [], fun x hx => (List.not_mem_nil hx).elim, rfl, Kd.C_nil _ _⟩
  · simp [Value.cells] at hcs
    obtain ⟨rfl, rfl, rfl⟩ := hcs
    have hlz : len ≤ zs.length := by rw [hz]; split <;> omega
    have hlen : (zs.take len).length = len := by rw [List.length_take]; omega
    refine ⟨hl, Nat.le_trans hl hm, zs.take len, fun n hn => hw n (List.mem_of_mem_take hn), hlen, ?_⟩
    refine Kd.C_of_reads (d := (0 : Int)) ⟨rfl, by rw [hlen]; unfold maxLen at hm; omega, fun _ => ⟨x, rfl, fun j hj => ?_⟩⟩
    rw [hlen] at hj
    have e1 := hcell j (by omega)
    have e2 : (zs.take len).getD j 0 = zs.getD j 0 := by
      simp only [List.getD_eq_getElem?_getD, List.getElem?_take, if_pos hj]
    rw [e2]
    exact e1
/-- The same, of one reading. -/
theorem open_nums_at {t e : TypeId} {fs : Array Field} {a : Option Addr} {len cap fuel : Nat} {x : DataW H × List MemPlace} (ht : P.underlying t = some (.slice e)) (he : P.underlying e = some (.struct fs))
    (hone : oneCellFields P fs = true) (hC : P.cellsOf e = fs.size) (hi : ∀ (j : Nat) (f : Field), fs[j]? = some f → P.underlying f.type = some (.int .i64))
    (hf : DataW.trod enc P w base spare held fuel t [.slice a len cap] = some x) :
    len ≤ cap ∧ len ≤ maxLen ∧ ∃ z : Nat → Nat → Int, (∀ i j, i < len → j < fs.size → (Lit.int .i64 (z i j)).wf = true) ∧
      (0 < len → ∃ ad, a = some ad ∧ ∀ i j, i < len → j < fs.size → w.cell? (ad.add (i * fs.size + j)) = some (.int .i64 (z i j))) :=
  open_nums (d := x.1) (ps := x.2) ht he hone hC hi ⟨fuel, by simpa [Value.cells] using hf⟩

/-- A struct of one slice. -/
theorem open_one {r : Reach} {b0 : Nat} {t e : TypeId} {f0 : Field} {v : Value} {d : DataW H} {p : List MemPlace} (hs : P.underlying t = some (.struct #[f0])) (hf0 : P.underlying f0.type = some (.slice e)) (hone : oneCellFields P #[f0] = true) (hC : P.cellsOf t = 1)
    (hv : Value.okWide P w r b0 t v) (h : DataW.Trod enc P w base spare held t v d p) :
    ∃ (a : Option Addr) (len cap : Nat) (y : DataW H × List MemPlace) (n : Nat), v = .agg #[.slice a len cap] ∧ DataW.trod enc P w base spare held n f0.type [.slice a len cap] = some y := by
  obtain ⟨cs, rfl, hsz⟩ := okWide_struct hs hv
  rw [hC] at hsz
  obtain ⟨c0, rfl⟩ : ∃ c, cs = #[c] := Array.size_eq_one_iff.mp hsz
  obtain ⟨fuel, hf⟩ := h
  obtain ⟨ys, n', hn', hy, hlen, hyl, hg⟩ := DataW.trod_struct hs hf
  obtain ⟨o0, k0⟩ := hone_of hone 0 f0 rfl
  have h1 := hg 0 f0 rfl
  rw [o0, k0] at h1
  have hv1 : (List.drop 0 (Value.agg #[c0]).cells.toList).take 1 = [c0] := rfl
  have h2 : DataW.trod enc P w base spare held n' f0.type [c0] = ys[0]? := h1
  have hys : ys[0]? = some (ys[0]'(by rw [hyl]; exact Nat.zero_lt_one)) := List.getElem?_eq_getElem _
  rw [hys] at h2
  rcases open_slice hf0 h2 with h0 | ⟨a, len, cap, m, n, D, Pl, hcs, _⟩
  · have := h0.1
    simp at this
    subst this
    exact ⟨none, 0, 0, _, n', rfl, h2⟩
  · simp at hcs
    subst hcs
    exact ⟨some a, len, cap, _, n', rfl, h2⟩
/-- A desk: a struct of two whole numbers, a whole number and a text. -/
theorem open_desk {r : Reach} {b0 : Nat} {t : TypeId} {F0 F1 F2 G0 G1 : Field} {v : Value} {d : DataW H} {p : List MemPlace} (hs : P.underlying t = some (.struct #[F0, F1, F2])) (hs0 : P.underlying F0.type = some (.struct #[G0, G1]))
    (g0 : P.underlying G0.type = some (.int .i64)) (g1 : P.underlying G1.type = some (.int .i64)) (f1 : P.underlying F1.type = some (.int .i64)) (f2 : P.underlying F2.type = some .string) (hone : oneCellFields P #[G0, G1] = true)
    (hC : (P.cellsOf t == 4 && F0.offset == 0 && P.cellsOf F0.type == 2 && F1.offset == 2 && P.cellsOf F1.type == 1 && F2.offset == 3 && P.cellsOf F2.type == 1) = true)
    (hv : Value.okWide P w r b0 t v) (h : DataW.Trod enc P w base spare held t v d p) :
    ∃ (x0 x1 x2 : Int) (s : ByteArray), v = .agg #[.int .i64 x0, .int .i64 x1, .int .i64 x2, .string s] ∧ (Lit.int .i64 x0).wf = true ∧ (Lit.int .i64 x1).wf = true ∧ (Lit.int .i64 x2).wf = true ∧ s.size ≤ maxLen := by
  simp only [Bool.and_eq_true, beq_iff_eq] at hC
  obtain ⟨⟨⟨⟨⟨⟨q0, q1⟩, q2⟩, q3⟩, q4⟩, q5⟩, q6⟩ := hC
  obtain ⟨cs, rfl, hsz⟩ := okWide_struct hs hv
  obtain ⟨l⟩ := cs
  have hl4 : l.length = 4 := hsz.trans q0
  obtain ⟨c0, c1, c2, c3, rfl⟩ : ∃ c0 c1 c2 c3, l = [c0, c1, c2, c3] := by
    match l, hl4 with
    | [c0, c1, c2, c3], _ => exact ⟨c0, c1, c2, c3, rfl⟩
  obtain ⟨fuel, hf⟩ := h
  obtain ⟨ys, n', hn', hy, hlen, hyl, hg⟩ := DataW.trod_struct hs hf
  have hyl3 : ys.length = 3 := hyl
  have k0 := hg 0 F0 rfl
  have k1 := hg 1 F1 rfl
  have k2 := hg 2 F2 rfl
  rw [q1, q2] at k0
  rw [q3, q4] at k1
  rw [q5, q6] at k2
  have k0' : DataW.trod enc P w base spare held n' F0.type [c0, c1] = ys[0]? := k0
  have k1' : DataW.trod enc P w base spare held n' F1.type [c2] = ys[1]? := k1
  have k2' : DataW.trod enc P w base spare held n' F2.type [c3] = ys[2]? := k2
  rw [List.getElem?_eq_getElem (show 0 < ys.length by omega)] at k0'
  rw [List.getElem?_eq_getElem (show 1 < ys.length by omega)] at k1'
  rw [List.getElem?_eq_getElem (show 2 < ys.length by omega)] at k2'
  obtain ⟨x2, rfl, w2⟩ := read_i64 f1 k1'
  obtain ⟨s, hs1, _, hs2⟩ := DataW.trod_string f2 k2'
  simp only [List.cons.injEq, and_true] at hs1
  subst hs1
  obtain ⟨zs, n2, _, _, _, hzl, hz⟩ := DataW.trod_struct hs0 k0'
  have hzl2 : zs.length = 2 := hzl
  obtain ⟨o0, u0⟩ := hone_of hone 0 G0 rfl
  obtain ⟨o1, u1⟩ := hone_of hone 1 G1 rfl
  have m0 := hz 0 G0 rfl
  have m1 := hz 1 G1 rfl
  rw [o0, u0] at m0
  rw [o1, u1] at m1
  have m0' : DataW.trod enc P w base spare held n2 G0.type [c0] = zs[0]? := m0
  have m1' : DataW.trod enc P w base spare held n2 G1.type [c1] = zs[1]? := m1
  rw [List.getElem?_eq_getElem (show 0 < zs.length by omega)] at m0'
  rw [List.getElem?_eq_getElem (show 1 < zs.length by omega)] at m1'
  obtain ⟨x0, rfl, w0⟩ := read_i64 g0 m0'
  obtain ⟨x1, rfl, w1⟩ := read_i64 g1 m1'
  exact ⟨x0, x1, x2, s, rfl, w0, w1, w2, hs2⟩
end
end Go.Proofs.YtcgoaipbfnhjhaaGreatDoor.RowA

/- The row of the law FnLoopsLace: Letters are interlaced both ways, loops that are turned and told back are the same and drawn alike, and crossings are taken out. -/
namespace Go.Proofs.YtcgoaipbfnhjhaaGreatDoor.fnLoopsLace
open Go.ChangeShapes Go.WideShapes Go.ChangeAt Go.RowKit Go.Proofs.YtcgoaipbfnhjhaaGreatDoor.Pr Go.Proofs.YtcgoaipbfnhjhaaGreatDoorW.PrintWords
open Go.ChangeMaps (open_string shut_string)
set_option linter.unusedVariables false
theorem own : ownKnob Tryz.prog.godebug = none := by kernel_rfl
theorem laidOut : laidOutB Tryz.prog = true := by kernel_rfl
set_option maxRecDepth 100000 in
theorem lifted (os : Os) (started : os.Started) (H : Type) (enc : TypeId × Value → H) :
    ReturnsInHanded {} Tryz.checked os 4 .any (fun w args => (Rows.fnLoopsLaceSpec.pre enc Tryz.prog Tryz.f4 [] false w args ∧ laidMetH Tryz.prog Rows.fnLoopsLaceRow.laid w) ∧ sizedMet enc Tryz.prog Tryz.f4 (OpenSpec.ofChange Rows.fnLoopsLaceSpec) false w args) (Rows.fnLoopsLaceSpec.post enc Tryz.prog Tryz.f4 false true false false) := by
  refine Go.Proofs.YtcgoaipbfnhjhaaGreatDoor.RowS.returns_and_shaped (C := Tryz.checked) (X := fun w _ => laidMetH Tryz.prog Rows.fnLoopsLaceRow.laid w) (fun _ _ _ hh h => h.of_heap hh) own started (by kernel_rfl) Tryz.func4
    (ChangeSpec.witness_shaped (enc := enc) (C := Tryz.checked) (os := os) (X := fun w _ => laidMetH Tryz.prog Rows.fnLoopsLaceRow.laid w) false (World.laidAll Tryz.prog os Rows.fnLoopsLaceRow.laid) #[.slice none 0 0, .slice none 0 0] 8 (World.laidAll_os _ _ _)
      (World.shaped_of_ZipB (by kernel_rfl) (by kernel_rfl)) (by kernel_rfl) (by kernel_rfl) (by kernel_rfl)
      (by rw [MakeChecks.laidMetH_plain _ _ _ (by kernel_rfl)]; exact laidMet_laidAll _ (by kernel_rfl) (by kernel_rfl))) ?_
  intro W base args ds gs before hval0 hW hcnd hsz0 hlaid hsh _
  have hsz : (DataW.weightsEach Tryz.prog (Tryz.f4.params.toList ++ Rows.fnLoopsLaceSpec.plain.varTypes Tryz.prog) (ds ++ gs)).all (· ≤ reachBytes) = true := hsz0
  have hval : ∀ (j : Nat) t v, Tryz.f4.params[j]? = some t → args[j]? = some v → Value.okWide Tryz.prog W .any base t v := hval0
  have hW' := hW
  obtain ⟨p, q, hA0, hV, rfl, hfz, hnd⟩ := hW
  have hA : DataW.TrodAll enc Tryz.prog W 0 (fun _ => true) true Tryz.f4.params.toList args.toList ds p := hA0
  rw [Tryz.params4] at hA hval hsz
  obtain ⟨v0, vs0, d0, ds0, p0, q0, hargs, rfl, rfl, h0, r0⟩ := trodAll_cons hA
  obtain ⟨v1, vs1, d1, ds1, p1, q1, rfl, rfl, rfl, h1, r1⟩ := trodAll_cons r0
  obtain ⟨rfl, rfl, rfl⟩ := trodAll_nil r1
  obtain rfl : args = #[v0, v1] := by cases args; simp_all
  obtain ⟨rfl, rfl⟩ := trodVars_none hV
  obtain ⟨b0, len0, cap0, rfl⟩ := okWide_slice Tryz.underlying22 (hval 0 22 v0 rfl rfl)
  have lt0 : ∀ x ∈ p0, x.block < W.heap.size := by obtain ⟨m, hm⟩ := h0; exact DataW.trod_lt m _ _ _ hm
  obtain ⟨hl0, hm0, l0, hw0, hn0, hr0⟩ := RowA.open_row (k := .u8) Tryz.underlying22 Tryz.underlying5 (by kernel_rfl) h0
  subst hn0
  obtain ⟨b1, len1, cap1, rfl⟩ := okWide_slice Tryz.underlying22 (hval 1 22 v1 rfl rfl)
  have lt1 : ∀ x ∈ p1, x.block < W.heap.size := by obtain ⟨m, hm⟩ := h1; exact DataW.trod_lt m _ _ _ hm
  obtain ⟨hl1, hm1, l1, hw1, hn1, hr1⟩ := RowA.open_row (k := .u8) Tryz.underlying22 Tryz.underlying5 (by kernel_rfl) h1
  subst hn1
  clear hA0 hval0 hsz0 hsz
  obtain ⟨k, hk⟩ := Pure.FnLoopsLace l0 l1 hm0 hw0 hm1 hw1
  refine (laws_FnLoopsLace.calls k _ _ l0 _ _ l1 true W (hasMax_shaped W hsh) hr0 hl0 hr1 hl1 hk).mono fun e W' he => ?_
  obtain ⟨he, bel0⟩ := he
  have bel : Below W.heap.size W W' := bel0
  subst he
  exact ⟨_, rfl, _, _, _, [], _, [], hW', trodAll_mk1 (shut_bool Tryz.underlying4 _), (trodAll_cons_mk (Below.trod laidOut (by kernel_rfl) (of_decide_eq_true (by kernel_rfl)) h0 bel lt0) (trodAll_cons_mk (Below.trod laidOut (by kernel_rfl) (of_decide_eq_true (by kernel_rfl)) h1 bel lt1) trodAll_mk0)), rfl, bel.frame _, fun h => by cases h⟩
theorem over : Rows.fnLoopsLaceRow.holds Tryz.pinned (OpenSpec.ofChange Rows.fnLoopsLaceSpec) :=
  OpenClaim.holds_of_wide 4 Tryz.f4 rfl rfl rfl rfl rfl rfl rfl ⟨rfl, rfl, rfl, rfl, rfl⟩ rfl rfl rfl rfl rfl (by kernel_rfl) Tryz.func4 (by kernel_rfl)
    (of_decide_eq_true (by kernel_rfl)) (by unfold Func.isWrapper; first | (rw [if_pos (by decide +kernel)]; kernel_rfl) | (rw [if_neg (by decide +kernel)]; exact ⟨rfl, rfl⟩))
    (fun os started H enc _ => lifted os started H enc)
theorem proved : Rows.FnLoopsLaceSaid := over
theorem card_holds : Rows.FnLoopsLaceCardSaid :=
  Claim7.holds_tied_plain_at .later [] [.data, .pinned] true (true, "484be979eb5d0110e8a26ef3e27895cbe156ac2638e0ebcaac341f1f8ef913b8") false
    proved (fun _ h => by cases h) (by kernel_rfl) (fun _ h => by cases h) fnLoopsLace_row_tie rfl ⟨rfl, rfl⟩ (by kernel_rfl) rfl
    (fun f fn hf hfn => by
      obtain rfl : f = 4 := Option.some.inj ((show Tryz.prog.funcNamed Rows.fnLoopsLaceRow.func = some 4 by kernel_rfl).symm.trans hf) |>.symm
      obtain rfl : fn = Tryz.f4 := (Option.some.inj (Tryz.func4.symm.trans hfn)).symm
      exact ⟨by kernel_rfl, fun j t ht => by
        rw [Tryz.params4] at ht
        have hm : t ∈ [22, 22] := by simpa using Array.mem_of_getElem? ht
        have hall : ([22, 22].all fun u => !Tryz.prog.wantsStandIn u) = true := by kernel_rfl
        exact (show Tryz.prog.wantsStandIn t = false by simpa using List.all_eq_true.1 hall t hm)⟩)
    (by kernel_rfl)
end Go.Proofs.YtcgoaipbfnhjhaaGreatDoor.fnLoopsLace
namespace Go.Proofs.YtcgoaipbfnhjhaaGreatDoor
/-- The row, under a short name, for the claim. -/
theorem fnLoopsLace_holds : Rows.FnLoopsLaceCardSaid := fnLoopsLace.card_holds
#print axioms fnLoopsLace_holds
end Go.Proofs.YtcgoaipbfnhjhaaGreatDoor
