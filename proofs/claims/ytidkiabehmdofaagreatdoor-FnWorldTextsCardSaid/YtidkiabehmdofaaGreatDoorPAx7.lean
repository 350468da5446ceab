/- Functions of the program, of the reference and of the statements: each as a plain Lean function, and a proof that the machine's call answers what that one answers. Written by a program: the kit's print, with contracts of our own for what it does not take. No condition. -/
import Derived.Test.YtidkiabehmdofaaGreatDoorPAx0
import Derived.Test.YtidkiabehmdofaaGreatDoorPAx4
import Derived.Test.YtidkiabehmdofaaGreatDoorPAx5
import Derived.Test.YtidkiabehmdofaaGreatDoorPAx6
namespace Go.Proofs.YtidkiabehmdofaaGreatDoor.PA
set_option maxHeartbeats 8000000
set_option maxRecDepth 100000
open Go.RowKit Go.Proofs.YtidkiabehmdofaaGreatDoorW.PrintWords Go.Proofs.YtidkiabehmdofaaGreatDoorW.PrintLast Go.Proofs.YtidkiabehmdofaaGreatDoorW.PrintMore
attribute [local go_sem] max2_int min2_int max_two min_two max_three min_three max_four min_four   -- for this text's walks alone
set_option linter.unusedVariables false
set_option linter.unusedSimpArgs false

/-! ### impl_ParseMilli: function 29 -/
/-- What is left of a text, parted at the dot: the whole part, and the part behind. -/
def milliPlain (a0 : ByteArray) : List UInt8 := Lib.trimPrefix a0.data.toList [45]
def milliWhole (a0 : ByteArray) : List UInt8 := (Lib.cut (milliPlain a0) [46]).1
def milliPart (a0 : ByteArray) : List UInt8 := (Lib.cut (milliPlain a0) [46]).2.1
def milliDigits (a0 : ByteArray) : List UInt8 := milliWhole a0 ++ (milliPart a0 ++ [48, 48, 48]).take 3
def impl_ParseMilli.t (k : Nat) (a0 : ByteArray) (n : Int) : Option (Int × Bool) := (impl_isValue.f n).bind fun t => if t = true then ((impl_MilliText.f k n).bind fun m => if m.toList = a0.toList then some (n, true) else some (0, false)) else some (0, false)
def impl_ParseMilli.f (k : Nat) (a0 : ByteArray) : Option (Int × Bool) :=
 if a0.size ≤ 4294967280 then
  if 7 < (milliWhole a0).length ∨ 3 < (milliPart a0).length then some (0, false)
  else match Lib.atoiAll (milliDigits a0) with
   | .ok v => if milliPlain a0 = a0.data.toList then impl_ParseMilli.t k a0 v else impl_ParseMilli.t k a0 (wrap64 (-v))
   | _ => some (0, false)
 else none
theorem impl_ParseMilli.mono_t (a0 : ByteArray) (n : Int) (k : Nat) : LeO (impl_ParseMilli.t k a0 n) (impl_ParseMilli.t (k + 1) a0 n) := by
 unfold impl_ParseMilli.t
 exact LeO.bind (LeO.refl _) fun _ => LeO.ite (LeO.bind (impl_MilliText.mono _ _) fun _ => LeO.refl _) (LeO.refl _)
theorem impl_ParseMilli.mono : ∀ a0 k, LeO (impl_ParseMilli.f k a0) (impl_ParseMilli.f (k + 1) a0) := by
 intro a0 k
 unfold impl_ParseMilli.f
 refine LeO.ite (LeO.ite (LeO.refl _) ?_) (LeO.refl _)
 cases Lib.atoiAll (milliDigits a0) with
 | ok v => exact LeO.ite (impl_ParseMilli.mono_t _ _ _) (impl_ParseMilli.mono_t _ _ _)
 | range => exact LeO.refl _
 | _ => exact LeO.refl _
--CALLS
theorem trimLe (a : List UInt8) : (Lib.trimPrefix a [45]).length ≤ a.length := by
 unfold Lib.trimPrefix
 split
 ·rw [List.length_drop]; omega
 ·exact Nat.le_refl _
theorem cutLe (a : List UInt8) : (Lib.cut a [46]).1.length ≤ a.length ∧ (Lib.cut a [46]).2.1.length ≤ a.length := by
 unfold Lib.cut
 split
 ·simp only [List.length_take, List.length_drop]; omega
 ·simp
theorem atoiBelow {w w1 : World} {e : TypeId} (h : w1 = w ∨ ∃ t, w1 = Lib.bytesWorld w e t) : Below w.heap.size w w1 := by
 rcases h with rfl | ⟨t, rfl⟩
 ·exact Below.refl _ _
 ·exact Lib.bytesWorld_below _ _ _
theorem impl_ParseMilli.calls (k : Nat) (a0 : ByteArray) (r1 : Int) (r2 : Bool) (w : World) (h : impl_ParseMilli.f k a0 = some (r1, r2)) (ht_ : Tab w := by exact HT.out.on Pst.bel) :
    Calls Tryz.prog 29 #[.string a0] w fun e w' => e = .returned (.tuple #[.int .i64 r1, .bool r2]) ∧ Below w.heap.size w w' := by
 have HT := Pst.A ht_
 clear ht_
 unfold impl_ParseMilli.f at h
 by_cases hb : a0.size ≤ 4294967280
 ·rw [if_pos hb] at h
  obtain ⟨p, hp⟩ : ∃ p : ByteArray, p = ⟨(milliPlain a0).toArray⟩ := ⟨_, rfl⟩
  obtain ⟨W, hW⟩ : ∃ W : ByteArray, W = ⟨(milliWhole a0).toArray⟩ := ⟨_, rfl⟩
  obtain ⟨T, hT⟩ : ∃ T : ByteArray, T = ⟨(milliPart a0).toArray⟩ := ⟨_, rfl⟩
  obtain ⟨B, hB⟩ : ∃ B : Bool, B = (Lib.cut (milliPlain a0) [46]).2.2 := ⟨_, rfl⟩
  have hps : p.size ≤ a0.size := by rw [hp]; exact trimLe _
  have c1 : ∀ w, Calls Tryz.prog 49 #[.string a0, .string ⟨#[45]⟩] w fun e w' => e = .returned (.string p) ∧ w' = w := fun w => by rw [hp]; exact Tryz.strings_TrimPrefix a0 ⟨#[45]⟩ w
  have c2 : ∀ w, Tab w → Calls Tryz.prog 50 #[.string p, .string ⟨#[46]⟩] w fun e w' => e = .returned (.tuple #[.string W, .string T, .bool B]) ∧ ∃ n, w' = w.drewN n := fun w ht => by
   obtain ⟨_, ⟨m, hm⟩, _⟩ := ht
   have := Tryz.strings_Cut p ⟨#[46]⟩ m w (by omega) hm
   rw [hW, hT, hB]
   rw [hp] at this ⊢
   exact this
  have lW : (milliWhole a0).length = W.size := by rw [hW]; rfl
  have lT : (milliPart a0).length = T.size := by rw [hT]; rfl
  have zW : W.size ≤ a0.size := by
   rw [← lW]; exact Nat.le_trans (cutLe (milliPlain a0)).1 (trimLe a0.data.toList)
  have zT : T.size ≤ a0.size := by
   rw [← lT]; exact Nat.le_trans (cutLe (milliPlain a0)).2 (trimLe a0.data.toList)
  rw [lW, lT] at h
  have hD : (W ++ (T ++ (⟨#[48, 48, 48]⟩ : ByteArray)).extract 0 3).data.toList = milliDigits a0 := by
   have e1 : ∀ s : ByteArray, (s.extract 0 3).data.toList = s.data.toList.take 3 := fun s => by simp
   rw [ByteArray.data_append, Array.toList_append, e1, ByteArray.data_append, Array.toList_append, hW, hT]
   rfl
  have hpe : (p.toList = a0.toList) = (milliPlain a0 = a0.data.toList) := by
   have e1 : ∀ s t : ByteArray, (s.toList = t.toList) = (s.data.toList = t.data.toList) := fun s t => by
    rw [ByteArray.toList_eq, ByteArray.toList_eq]
   rw [e1, hp]
  clear hW hT hB hp lW lT
  have C1 := Lib.hid c1
  have C2 := Lib.hid c2
  have HD := Lib.hid hD
  have HP := Lib.hid hpe
  clear c1 c2 hD hpe
  by_cases hl : 7 < W.size ∨ 3 < T.size
  ·rw [if_pos hl] at h
   obtain ⟨rfl, rfl⟩ : 0 = r1 ∧ false = r2 := by simpa using h
   clear h
   by_cases h7 : 7 < W.size
   ·have d7 : decide (7 < W.size) = true := decide_eq_true h7
    have e7 : decide (7 < (W.size : Int)) = true := decide_eq_true (by omega)
    clear hl h7
    go_enter Tryz.func29, Tryz.ntmps29
    go_wp2_with (first
     | (go_at_call 49; refine (C1.out _).mono ?_; rintro e w1 ⟨rfl, rfl⟩)
     | (go_at_call 50; refine (C2.out _ HT.out).mono ?_; rintro e w1 ⟨rfl, n, rfl⟩))
    go_ret2
    exact ⟨rfl, pw_below_drewN (Below.refl _ _) _⟩
   ·have d7 : decide (7 < W.size) = false := decide_eq_false h7
    have d3 : decide (3 < T.size) = true := decide_eq_true (hl.resolve_left h7)
    have e7 : decide (7 < (W.size : Int)) = false := decide_eq_false (by omega)
    have e3 : decide (3 < (T.size : Int)) = true := decide_eq_true (by have := hl.resolve_left h7; omega)
    clear hl h7
    go_enter Tryz.func29, Tryz.ntmps29
    go_wp2_with (first
     | (go_at_call 49; refine (C1.out _).mono ?_; rintro e w1 ⟨rfl, rfl⟩)
     | (go_at_call 50; refine (C2.out _ HT.out).mono ?_; rintro e w1 ⟨rfl, n, rfl⟩))
    go_ret2
    exact ⟨rfl, pw_below_drewN (Below.refl _ _) _⟩
  ·rw [if_neg hl] at h
   have d7 : decide (7 < W.size) = false := decide_eq_false (by omega)
   have d3 : decide (3 < T.size) = false := decide_eq_false (by omega)
   have e7 : decide (7 < (W.size : Int)) = false := decide_eq_false (by omega)
   have e3 : decide (3 < (T.size : Int)) = false := decide_eq_false (by omega)
   have s1 : (9223372036854775807 < T.size + 3) = False := eq_false (by omega)
   clear hl
   have hV : (W ++ (T ++ (⟨#[48, 48, 48]⟩ : ByteArray)).extract 0 3).size ≤ 10 := by
    rw [ByteArray.size_append, ByteArray.size_extract, ByteArray.size_append]
    have : (⟨#[48, 48, 48]⟩ : ByteArray).size = 3 := rfl
    simp only [decide_eq_false_iff_not] at d7 d3
    omega
   have HV := Lib.hid hV
   clear hV
   obtain ⟨_, _, ⟨ev0, hv0, he0⟩, ev1, hv1, he1⟩ := id HT.out
   have Hv0 := Lib.hid hv0
   have Hv1 := Lib.hid hv1
   clear hv0 hv1
   cases hA : Lib.atoiAll (milliDigits a0) with
   | range =>
    rw [hA] at h
    obtain ⟨rfl, rfl⟩ : 0 = r1 ∧ false = r2 := by simpa using h
    rw [← HD.out] at hA
    have HA := Lib.hid hA
    clear hA h
    go_enter Tryz.func29, Tryz.ntmps29
    go_wp2_with (first
        | (go_at_call 49; refine (C1.out _).mono ?_; rintro e w1 ⟨rfl, rfl⟩)
        | (go_at_call 50; refine (C2.out _ HT.out).mono ?_; rintro e w1 ⟨rfl, n, rfl⟩)
        | (go_at_call 47; refine (Tryz.strconv_Atoi_range _ (by have := HV.out; omega) HA.out ev1 _ (by exact Tab.cell (pw_below_drewN (Below.refl _ _) _) Hv1.out) he1).mono ?_; rintro e W1 ⟨N, rfl, -, -, hb1⟩))
    go_ret2
    exact ⟨rfl, below_step (pw_below_drewN (Below.refl _ _) _) hb1⟩
   | ok v =>
    rw [hA] at h
    rw [← HD.out] at hA
    have HA := Lib.hid hA
    clear hA
    by_cases hq : milliPlain a0 = a0.data.toList
    ·have h2 : impl_ParseMilli.t k a0 v = some (r1, r2) := by simpa [hq] using h
     have hpl : (p.toList != a0.toList) = false := by simpa using (iff_of_eq HP.out).2 hq
     have hpl2 : (p.toList == a0.toList) = true := by simpa using hpl
     have hpl3 : (!p.toList == a0.toList) = false := by rw [hpl2]; rfl
     clear h hq
     unfold impl_ParseMilli.t at h2
     obtain ⟨t, At, h2⟩ := Option.bind_eq_some_iff.1 h2
     replace At := Pst.A At
     cases t with
     | false =>
      obtain ⟨rfl, rfl⟩ : 0 = r1 ∧ false = r2 := by simpa using h2
      clear h2
      go_enter Tryz.func29, Tryz.ntmps29
      go_wp2_with (first
          | (go_at_call 49; refine (C1.out _).mono ?_; rintro e w1 ⟨rfl, rfl⟩)
          | (go_at_call 50; refine (C2.out _ HT.out).mono ?_; rintro e w1 ⟨rfl, n, rfl⟩)
          | (go_at_call 47; refine (Tryz.strconv_Atoi_ok _ (by have := HV.out; omega) v HA.out _).mono ?_; rintro e W1 ⟨rfl, hw1⟩; have HB := Pst.A (show Below w1.heap.size w1 W1 from below_step (pw_below_drewN (Below.refl _ _) _) (atoiBelow hw1)); clear hw1)
          | (go_at_call 38; refine (impl_isValue.calls v _ _ At.out).mono ?_; rintro e W2 ⟨rfl, ⟨nd, rfl⟩⟩)
          | (go_at_call 19; refine (impl_MilliText.calls k v m _ Am.out (HT.out.on Pst.bel)).mono ?_; rintro e W3 ⟨rfl, hb3⟩; have n_ := Pst.A (below_step Pst.bel hb3); clear HB hb3; have HB := n_; clear n_))
      go_ret2
      exact ⟨rfl, Pst.bel⟩
     | true =>
      obtain ⟨m, Am, h2⟩ := Option.bind_eq_some_iff.1 h2
      replace Am := Pst.A Am
      by_cases hm : m.toList = a0.toList
      ·obtain ⟨rfl, rfl⟩ : v = r1 ∧ true = r2 := by simpa [hm] using h2
       have hmb : (m.toList != a0.toList) = false := by simpa using hm
       have hmb2 : (m.toList == a0.toList) = true := by simpa using hmb
       have hmb3 : (!m.toList == a0.toList) = false := by rw [hmb2]; rfl
       clear h2 hm
       go_enter Tryz.func29, Tryz.ntmps29
       go_wp2_with (first
           | (go_at_call 49; refine (C1.out _).mono ?_; rintro e w1 ⟨rfl, rfl⟩)
           | (go_at_call 50; refine (C2.out _ HT.out).mono ?_; rintro e w1 ⟨rfl, n, rfl⟩)
           | (go_at_call 47; refine (Tryz.strconv_Atoi_ok _ (by have := HV.out; omega) v HA.out _).mono ?_; rintro e W1 ⟨rfl, hw1⟩; have HB := Pst.A (show Below w1.heap.size w1 W1 from below_step (pw_below_drewN (Below.refl _ _) _) (atoiBelow hw1)); clear hw1)
           | (go_at_call 38; refine (impl_isValue.calls v _ _ At.out).mono ?_; rintro e W2 ⟨rfl, ⟨nd, rfl⟩⟩)
           | (go_at_call 19; refine (impl_MilliText.calls k v m _ Am.out (HT.out.on Pst.bel)).mono ?_; rintro e W3 ⟨rfl, hb3⟩; have n_ := Pst.A (below_step Pst.bel hb3); clear HB hb3; have HB := n_; clear n_))
       go_ret2
       exact ⟨rfl, Pst.bel⟩
      ·obtain ⟨rfl, rfl⟩ : 0 = r1 ∧ false = r2 := by simpa [hm] using h2
       have hmb : (m.toList != a0.toList) = true := by simpa using hm
       have hmb2 : (m.toList == a0.toList) = false := by simpa using hmb
       have hmb3 : (!m.toList == a0.toList) = true := by rw [hmb2]; rfl
       clear h2 hm
       go_enter Tryz.func29, Tryz.ntmps29
       go_wp2_with (first
           | (go_at_call 49; refine (C1.out _).mono ?_; rintro e w1 ⟨rfl, rfl⟩)
           | (go_at_call 50; refine (C2.out _ HT.out).mono ?_; rintro e w1 ⟨rfl, n, rfl⟩)
           | (go_at_call 47; refine (Tryz.strconv_Atoi_ok _ (by have := HV.out; omega) v HA.out _).mono ?_; rintro e W1 ⟨rfl, hw1⟩; have HB := Pst.A (show Below w1.heap.size w1 W1 from below_step (pw_below_drewN (Below.refl _ _) _) (atoiBelow hw1)); clear hw1)
           | (go_at_call 38; refine (impl_isValue.calls v _ _ At.out).mono ?_; rintro e W2 ⟨rfl, ⟨nd, rfl⟩⟩)
           | (go_at_call 19; refine (impl_MilliText.calls k v m _ Am.out (HT.out.on Pst.bel)).mono ?_; rintro e W3 ⟨rfl, hb3⟩; have n_ := Pst.A (below_step Pst.bel hb3); clear HB hb3; have HB := n_; clear n_))
       go_ret2
       exact ⟨rfl, Pst.bel⟩
    ·have h2 : impl_ParseMilli.t k a0 (wrap64 (-v)) = some (r1, r2) := by simpa [hq] using h
     have hpl : (p.toList != a0.toList) = true := by simpa using fun e => hq ((iff_of_eq HP.out).1 e)
     have hpl2 : (p.toList == a0.toList) = false := by simpa using hpl
     have hpl3 : (!p.toList == a0.toList) = true := by rw [hpl2]; rfl
     clear h hq
     unfold impl_ParseMilli.t at h2
     obtain ⟨t, At, h2⟩ := Option.bind_eq_some_iff.1 h2
     replace At := Pst.A At
     cases t with
     | false =>
      obtain ⟨rfl, rfl⟩ : 0 = r1 ∧ false = r2 := by simpa using h2
      clear h2
      go_enter Tryz.func29, Tryz.ntmps29
      go_wp2_with (first
          | (go_at_call 49; refine (C1.out _).mono ?_; rintro e w1 ⟨rfl, rfl⟩)
          | (go_at_call 50; refine (C2.out _ HT.out).mono ?_; rintro e w1 ⟨rfl, n, rfl⟩)
          | (go_at_call 47; refine (Tryz.strconv_Atoi_ok _ (by have := HV.out; omega) v HA.out _).mono ?_; rintro e W1 ⟨rfl, hw1⟩; have HB := Pst.A (show Below w1.heap.size w1 W1 from below_step (pw_below_drewN (Below.refl _ _) _) (atoiBelow hw1)); clear hw1)
          | (go_at_call 38; refine (impl_isValue.calls (wrap64 (-v)) _ _ At.out).mono ?_; rintro e W2 ⟨rfl, ⟨nd, rfl⟩⟩)
          | (go_at_call 19; refine (impl_MilliText.calls k (wrap64 (-v)) m _ Am.out (HT.out.on Pst.bel)).mono ?_; rintro e W3 ⟨rfl, hb3⟩; have n_ := Pst.A (below_step Pst.bel hb3); clear HB hb3; have HB := n_; clear n_))
      go_ret2
      exact ⟨rfl, Pst.bel⟩
     | true =>
      obtain ⟨m, Am, h2⟩ := Option.bind_eq_some_iff.1 h2
      replace Am := Pst.A Am
      by_cases hm : m.toList = a0.toList
      ·obtain ⟨rfl, rfl⟩ : (wrap64 (-v)) = r1 ∧ true = r2 := by simpa [hm] using h2
       have hmb : (m.toList != a0.toList) = false := by simpa using hm
       have hmb2 : (m.toList == a0.toList) = true := by simpa using hmb
       have hmb3 : (!m.toList == a0.toList) = false := by rw [hmb2]; rfl
       clear h2 hm
       go_enter Tryz.func29, Tryz.ntmps29
       go_wp2_with (first
           | (go_at_call 49; refine (C1.out _).mono ?_; rintro e w1 ⟨rfl, rfl⟩)
           | (go_at_call 50; refine (C2.out _ HT.out).mono ?_; rintro e w1 ⟨rfl, n, rfl⟩)
           | (go_at_call 47; refine (Tryz.strconv_Atoi_ok _ (by have := HV.out; omega) v HA.out _).mono ?_; rintro e W1 ⟨rfl, hw1⟩; have HB := Pst.A (show Below w1.heap.size w1 W1 from below_step (pw_below_drewN (Below.refl _ _) _) (atoiBelow hw1)); clear hw1)
           | (go_at_call 38; refine (impl_isValue.calls (wrap64 (-v)) _ _ At.out).mono ?_; rintro e W2 ⟨rfl, ⟨nd, rfl⟩⟩)
           | (go_at_call 19; refine (impl_MilliText.calls k (wrap64 (-v)) m _ Am.out (HT.out.on Pst.bel)).mono ?_; rintro e W3 ⟨rfl, hb3⟩; have n_ := Pst.A (below_step Pst.bel hb3); clear HB hb3; have HB := n_; clear n_))
       go_ret2
       exact ⟨rfl, Pst.bel⟩
      ·obtain ⟨rfl, rfl⟩ : 0 = r1 ∧ false = r2 := by simpa [hm] using h2
       have hmb : (m.toList != a0.toList) = true := by simpa using hm
       have hmb2 : (m.toList == a0.toList) = false := by simpa using hmb
       have hmb3 : (!m.toList == a0.toList) = true := by rw [hmb2]; rfl
       clear h2 hm
       go_enter Tryz.func29, Tryz.ntmps29
       go_wp2_with (first
           | (go_at_call 49; refine (C1.out _).mono ?_; rintro e w1 ⟨rfl, rfl⟩)
           | (go_at_call 50; refine (C2.out _ HT.out).mono ?_; rintro e w1 ⟨rfl, n, rfl⟩)
           | (go_at_call 47; refine (Tryz.strconv_Atoi_ok _ (by have := HV.out; omega) v HA.out _).mono ?_; rintro e W1 ⟨rfl, hw1⟩; have HB := Pst.A (show Below w1.heap.size w1 W1 from below_step (pw_below_drewN (Below.refl _ _) _) (atoiBelow hw1)); clear hw1)
           | (go_at_call 38; refine (impl_isValue.calls (wrap64 (-v)) _ _ At.out).mono ?_; rintro e W2 ⟨rfl, ⟨nd, rfl⟩⟩)
           | (go_at_call 19; refine (impl_MilliText.calls k (wrap64 (-v)) m _ Am.out (HT.out.on Pst.bel)).mono ?_; rintro e W3 ⟨rfl, hb3⟩; have n_ := Pst.A (below_step Pst.bel hb3); clear HB hb3; have HB := n_; clear n_))
       go_ret2
       exact ⟨rfl, Pst.bel⟩

   | _ =>
    rw [hA] at h
    obtain ⟨rfl, rfl⟩ : 0 = r1 ∧ false = r2 := by simpa using h
    rw [← HD.out] at hA
    have HA := Lib.hid hA
    clear hA h
    go_enter Tryz.func29, Tryz.ntmps29
    go_wp2_with (first
        | (go_at_call 49; refine (C1.out _).mono ?_; rintro e w1 ⟨rfl, rfl⟩)
        | (go_at_call 50; refine (C2.out _ HT.out).mono ?_; rintro e w1 ⟨rfl, n, rfl⟩)
        | (go_at_call 47; refine (Tryz.strconv_Atoi_syntax _ (by have := HV.out; omega) HA.out ev0 _ (by exact Tab.cell (pw_below_drewN (Below.refl _ _) _) Hv0.out) he0).mono ?_; rintro e W1 ⟨N, rfl, -, -, hb1⟩))
    go_ret2
    exact ⟨rfl, below_step (pw_below_drewN (Below.refl _ _) _) hb1⟩
 ·rw [if_neg hb] at h
  cases h

/-! ### impl_ParseWorld: function 9 -/
abbrev q0_9 : Array Bool := #[false, false, false, false, false, false, false, false, false, false, false, false, false, false, false, false, false, false]
abbrev q1_9 : Array Bool := #[false, false, true, false, false, false, false, false, false, false, false, false, false, false, false, false, false, false]
abbrev q2_9 : Array Bool := #[false, false, true, true, false, false, false, false, false, false, false, false, false, false, false, false, false, false]
abbrev q3_9 : Array Bool := #[false, false, true, true, false, false, true, false, false, false, false, false, false, false, false, false, false, false]
abbrev q4_9 : Array Bool := #[false, false, true, true, false, false, true, true, false, false, false, false, false, false, false, false, false, false]
abbrev q5_9 : Array Bool := #[false, false, true, true, false, false, true, true, false, false, true, false, false, false, false, false, false, false]
abbrev q6_9 : Array Bool := #[false, false, true, true, false, false, true, true, false, false, true, true, false, false, false, false, false, false]
/-- A world and a yes or no, as the calls tell them; no world. -/
abbrev WorldB : Type := Int × Int × Int × List S48 × List S101 × Int × Int × List S101 × Int × Int × Int × Int × List Int × Int × Int × Int × Bool
def noWorld : WorldB := (0, 0, 0, [], [], 0, 0, [], 0, 0, 0, 0, [], 0, 0, 0, false)
/-- The loads of the texts left, behind those that were read; none inside where a text is no load. -/
def impl_ParseWorld.l0 (k : Nat) : List ByteArray → List Int → Option (Option (List Int))
 | [], acc => some (some acc)
 | x :: xs, acc => (impl_ParseMilli.f k x).bind fun r => if r.2 = true then impl_ParseWorld.l0 k xs (acc ++ [r.1]) else some none
/-- What stands behind the loads. -/
def impl_ParseWorld.fin (k : Nat) (a0 : ByteArray) (a b c : Int) (g : List S48) (p : List S101) (d e : Int) (q : List S101) (m n i j : Int) (wa st co : Int) : Option (List Int) → Option WorldB
 | none => some noWorld
 | some L => (impl_WorldOk.f k a b c g p d e q m n i j L wa st co).bind fun ok => if ok = true then ((impl_WorldText.f k a b c g p d e q m n i j L wa st co).bind fun t => if t.toList = a0.toList then some (a, b, c, g, p, d, e, q, m, n, i, j, L, wa, st, co, true) else some noWorld) else some noWorld
/-- What stands behind the copy of the setup. -/
def impl_ParseWorld.go (k : Nat) (a0 : ByteArray) (P : List ByteArray) (a b c : Int) (g : List S48) (p : List S101) (d e : Int) (q : List S101) (m n i j : Int) : Option WorldB :=
 (impl_atoi.f (rdOf ByteArray.empty P 0)).bind fun co => (impl_atoi.f (rdOf ByteArray.empty P 2)).bind fun wa => (strings_TrimSuffix.f (rdOf ByteArray.empty P 4) (⟨#[58]⟩ : ByteArray)).bind fun y => (impl_atoi.f y).bind fun st =>
  (impl_ParseWorld.l0 k (P.drop 5) []).bind fun o => impl_ParseWorld.fin k a0 a b c g p d e q m n i j wa st co o
def impl_ParseWorld.f (k : Nat) (a0 : ByteArray) (a b c : Int) (g : List S48) (p : List S101) (d e : Int) (q : List S101) (m n i j : Int) : Option WorldB :=
 (strings_Split.f a0 (⟨#[32]⟩ : ByteArray)).bind fun P => if 6 ≤ P.length ∧ P.length ≤ 25 then ((impl_ownSetup.f a b c g p d e q m n i j).bind fun s => impl_ParseWorld.go k a0 P s.1 s.2.1 s.2.2.1 s.2.2.2.1 s.2.2.2.2.1 s.2.2.2.2.2.1 s.2.2.2.2.2.2.1 s.2.2.2.2.2.2.2.1 s.2.2.2.2.2.2.2.2.1 s.2.2.2.2.2.2.2.2.2.1 s.2.2.2.2.2.2.2.2.2.2.1 s.2.2.2.2.2.2.2.2.2.2.2) else some noWorld
theorem impl_ParseWorld.mono_l : ∀ xs acc k, LeO (impl_ParseWorld.l0 k xs acc) (impl_ParseWorld.l0 (k + 1) xs acc)
 | [], _, _ => LeO.refl _
 | x :: xs, acc, k => LeO.bind (impl_ParseMilli.mono _ _) fun _ => LeO.ite (impl_ParseWorld.mono_l xs _ k) (LeO.refl _)
theorem impl_ParseWorld.mono : ∀ a0 a b c g p d e q m n i j k, LeO (impl_ParseWorld.f k a0 a b c g p d e q m n i j) (impl_ParseWorld.f (k + 1) a0 a b c g p d e q m n i j) := by
 intro a0 a b c g p d e q m n i j k
 refine LeO.bind (LeO.refl _) fun P => LeO.ite (LeO.bind (LeO.refl _) fun s => ?_) (LeO.refl _)
 refine LeO.bind (LeO.refl _) fun co => LeO.bind (LeO.refl _) fun wa => LeO.bind (LeO.refl _) fun y => LeO.bind (LeO.refl _) fun st => LeO.bind (impl_ParseWorld.mono_l _ _ _) fun o => ?_
 cases o with
 | none => exact LeO.refl _
 | some L => exact LeO.bind (impl_WorldOk.mono _ _ _ _ _ _ _ _ _ _ _ _ _ _ _ _ _) fun _ => LeO.ite (LeO.bind (impl_WorldText.mono _ _ _ _ _ _ _ _ _ _ _ _ _ _ _ _ _) fun _ => LeO.refl _) (LeO.refl _)
--CALLS
theorem storeAll {P : Program} {ops : Array Oper} {rest : List Oper} {o : Oper} {a : Act} {w : World} {Q : Exit → Act → World → Prop} (hgd : o.guard = none) (ty : TypeId) (x y : Operand) (ho : o.op = .store ty x y)
 (g : Nat) (cells : Array Value) (hx : a.eval x = .pointer (some ⟨g, 0, none⟩)) (hy : a.eval y = .agg cells)
 (t : TypeId) (old : Array Value) (hg : w.heap[g]? = some (.cells old t (0, 0))) (hi : (P.info? ty).map (·.size) = some cells.size) (hold : old.size = cells.size) (h1 : cells.all (·.oneCell') = true)
 (h : ∀ w1, w1.heap[g]? = some (.cells cells t (0, 0)) → w.grownBy w1 (some g) → wpList P ops Q rest (a.put o.dst undef) w1) : wpList P ops Q (o :: rest) a w :=
 wpList_store_row hgd ty x y ho g cells hx hy t old hg hi hold h1 (h _ (setRow_heap w g old cells t _ hg) ⟨rfl, rfl, rfl, by simp [World.setRow], fun k _ hk => setRow_other w g k cells (fun e => hk (by rw [e]))⟩)
theorem implIn625 (P : List ByteArray) : impl_in.f (P.length : Int) 6 25 = some (decide (6 ≤ P.length ∧ P.length ≤ 25)) := by
 have e : decide (6 ≤ P.length ∧ P.length ≤ 25) = decide ((6 : Int) ≤ (P.length : Int) ∧ (P.length : Int) ≤ 25) := by
  congr 1
  exact propext ⟨fun h => by omega, fun h => by omega⟩
 rw [e]
 unfold impl_in.f
 simp only [ge_iff_le, Bool.decide_and]
 by_cases h1 : (6 : Int) ≤ (P.length : Int) <;> simp [h1]
theorem loadAll {P : Program} {o : Oper} {a : Act} {w : World} (ty : TypeId) (x : Operand) (ho : o.op = .load ty x) (g : Nat) (hx : a.eval x = .pointer (some ⟨g, 0, none⟩)) (t : TypeId) (cs : Array Value) (d : TypeDesc)
 (hg : w.heap[g]? = some (.cells cs t (0, 0))) (hu : P.underlying ty = some d) (hd : (match d with | .struct _ | .array _ _ => true | _ => false) = true) (hi : (P.info? ty).map (·.size) = some cs.size) :
 (execOp a.eval o).run P w = .ok (.value (.agg cs)) w := by
 unfold execOp
 simp only [ho, hx, Instr.loadAt, Instr.sureAddr, Sem.run_bind, Sem.run_pure, Result.andThen_ok, run_loadVar_row w g t ty cs (0, 0) d hg hu hd hi]
theorem storeStep {P : Program} {ops : Array Oper} {o : Oper} {a : Act} {w : World} {K : Act → World → Prop} {Q : Exit → Act → World → Prop} (hw : Region.wanted o (yielded ops a.tmps) = true) (hN : o.dst = none) (ty : TypeId) (x y : Operand) (ho : o.op = .store ty x y)
 (g : Nat) (cells : Array Value) (hx : a.eval x = .pointer (some ⟨g, 0, none⟩)) (hy : a.eval y = .agg cells)
 (t : TypeId) (old : Array Value) (hg : w.heap[g]? = some (.cells old t (0, 0))) (hi : (P.info? ty).map (·.size) = some cells.size) (hold : old.size = cells.size) (h1 : cells.all (·.oneCell') = true)
 (h : ∀ w1, w1.heap[g]? = some (.cells cells t (0, 0)) → w.grownBy w1 (some g) → K a w1) : if Region.wanted o (yielded ops a.tmps) = true then Oper.wp P o a w K Q else K (a.put none undef) w := by
 refine skip_ (w1 := w.setRow g cells) hw hN ?_ (h _ (setRow_heap w g old cells t _ hg) ⟨rfl, rfl, rfl, by simp [World.setRow], fun k _ hk => setRow_other w g k cells (fun e => hk (by rw [e]))⟩)
 unfold execOp
 simp only [ho, hx, hy, Instr.storeAt, Instr.sureAddr, Sem.run_bind, Sem.run_pure, Result.andThen_ok, run_storeVar_row w g t ty old cells hg hi hold h1]
theorem oneInt (k : IntKind) (z : Int) : (Value.int k z).oneCell' = true := rfl
theorem oneSlice (a : Option Addr) (n c : Nat) : (Value.slice a n c).oneCell' = true := rfl
theorem R_oneCell {α : Type} {d : Kd α} {e base : Nat} {w : World} {ok : Nat → Prop} {v : Value} {xs : List α} (h : d.R e w base ok v xs) : v.oneCell' = true := by
 obtain ⟨A, c, rfl⟩ := Kd.R_slice h
 rfl
theorem ownStrings {w : World} {base : Nat} {ok : Nat → Prop} {v : Value} {P : List ByteArray} (h : Kd.R Kd.string 9 w base ok v P) (hP : 1 ≤ P.length) :
 ∃ g cap cur, v = .slice (some ⟨g, 0, none⟩) P.length cap ∧ base ≤ g ∧ w.heap[g]? = some (.cells cur 9 (0, 0)) ∧ P.length ≤ cap ∧ cap ≤ maxLen ∧ ∀ j : Nat, j < P.length → cur[j]? = some (.string (rdOf ByteArray.empty P (j : Int))) := by
 obtain ⟨hok, inner, hown, hrep⟩ := h
 obtain ⟨hlen, hv⟩ := hown
 rcases hv with ⟨rfl, h0⟩ | ⟨g, cap, cur, rfl, hbase, hg, hnc, hcm, hcs, htake⟩
 ·omega
 refine ⟨g, cap, cur, rfl, hbase, hg, hnc, hcm, fun j hj => ?_⟩
 have h1 := hrep.2 j _ (List.getElem?_eq_getElem hj)
 have h2 : (inner.drop (j * 1)).take 1 = [.string P[j]] := h1
 have h3 : ((inner.drop (j * 1)).take 1)[0]? = some (.string P[j]) := by rw [h2]; rfl
 rw [List.getElem?_take, if_pos (by omega), List.getElem?_drop, ← htake, List.getElem?_take, if_pos (by show j * 1 + 0 < P.length * 1; omega)] at h3
 rw [← Array.getElem?_toList]
 rw [Nat.mul_one, Nat.add_zero] at h3
 rw [h3]
 unfold rdOf
 rw [Int.toNat_natCast, List.getD_eq_getElem?_getD, List.getElem?_eq_getElem hj]
 rfl
theorem infoInt : (Tryz.prog.info? 3).map (fun i => (i.zero, i.size, i.bytes)) = some (some (.int .i64 0), 1, 8) := by kernel_rfl
theorem dropRd (P : List ByteArray) (i : Nat) (h : i < P.length) : P.drop i = rdOf ByteArray.empty P (i : Int) :: P.drop (i + 1) := by
 rw [List.drop_eq_getElem_cons h]
 congr 1
 unfold rdOf
 rw [Int.toNat_natCast, List.getD_eq_getElem?_getD, List.getElem?_eq_getElem h]
 rfl
theorem noWorldIs {r1 r2 r3 : Int} {r4 : List S48} {r5 : List S101} {r6 r7 : Int} {r8 : List S101} {r9 r10 r11 r12 : Int} {r13 : List Int} {r14 r15 r16 : Int} {r17 : Bool} (h : some noWorld = some (r1, r2, r3, r4, r5, r6, r7, r8, r9, r10, r11, r12, r13, r14, r15, r16, r17)) :
 r1 = 0 ∧ r2 = 0 ∧ r3 = 0 ∧ r4 = [] ∧ r5 = [] ∧ r6 = 0 ∧ r7 = 0 ∧ r8 = [] ∧ r9 = 0 ∧ r10 = 0 ∧ r11 = 0 ∧ r12 = 0 ∧ r13 = [] ∧ r14 = 0 ∧ r15 = 0 ∧ r16 = 0 ∧ r17 = false := by
 simp only [noWorld, Option.some.injEq, Prod.mk.injEq] at h
 obtain ⟨rfl, rfl, rfl, rfl, rfl, rfl, rfl, rfl, rfl, rfl, rfl, rfl, rfl, rfl, rfl, rfl, rfl⟩ := h
 exact ⟨rfl, rfl, rfl, rfl, rfl, rfl, rfl, rfl, rfl, rfl, rfl, rfl, rfl, rfl, rfl, rfl, rfl⟩
def impl_ParseWorld.T4 : Bool × List (List Nat × List Nat) := (true, [([], []), ([0], [0]), ([], []), ([2], [2]), ([3], [3]), ([4, 1], [4]), ([], []), ([6], [6]), ([7], [7]), ([8, 5], [8]), ([], []), ([10], [10]), ([11], [11]), ([12, 9], [12]), ([13, 13], [13]), ([1, 5, 9, 14], [1, 5, 9, 14]), ([], []), ([16, 15, 14, 0, 1, 2, 3, 4, 5, 6, 7, 8, 9, 10, 11, 12, 13, 14, 15, 16], [15, 16])])
def impl_ParseWorld.B4 : List Nat := [0, 1, 0, 4, 12, 31, 0, 64, 192, 511, 0, 1024, 3072, 8191, 16383, 32767, 0, 131071]
theorem impl_ParseWorld.tab4 : rtab .any (opsOf Tryz.f9 4) = impl_ParseWorld.T4 := by kernel_rfl
theorem impl_ParseWorld.bits4 : waitsOk impl_ParseWorld.T4.2 impl_ParseWorld.B4 = true := by kernel_rfl
theorem impl_ParseWorld.calls (k : Nat) (a0 : ByteArray) (a1_0 : Int) (a1_1 : Int) (a1_2 : Int) (A1_3 : Option Addr) (c1_3 : Nat) (l1_3 : List (S48)) (A1_4 : Option Addr) (c1_4 : Nat) (l1_4 : List (S101)) (a1_5 : Int) (a1_6 : Int) (A1_7 : Option Addr) (c1_7 : Nat) (l1_7 : List (S101)) (a1_8 : Int) (a1_9 : Int) (a1_10 : Int) (a1_11 : Int) (r1 : Int) (r2 : Int) (r3 : Int) (r4 : List (S48)) (r5 : List (S101)) (r6 : Int) (r7 : Int) (r8 : List (S101)) (r9 : Int) (r10 : Int) (r11 : Int) (r12 : Int) (r13 : List Int) (r14 : Int) (r15 : Int) (r16 : Int) (r17 : Bool) (w : World) (hr1_3 : Kd.C k48 w A1_3 l1_3.length l1_3) (hc1_3 : l1_3.length ≤ c1_3) (hr1_4 : Kd.C k101 w A1_4 l1_4.length l1_4) (hc1_4 : l1_4.length ≤ c1_4) (hr1_7 : Kd.C k101 w A1_7 l1_7.length l1_7) (hc1_7 : l1_7.length ≤ c1_7) (h : impl_ParseWorld.f k a0 a1_0 a1_1 a1_2 l1_3 l1_4 a1_5 a1_6 l1_7 a1_8 a1_9 a1_10 a1_11 = some (r1, r2, r3, r4, r5, r6, r7, r8, r9, r10, r11, r12, r13, r14, r15, r16, r17)) (tab_ : Tab w := by exact HT.out.on Pst.bel) :
 Calls Tryz.prog 9 #[.string a0, .agg #[.int .i64 a1_0, .int .i64 a1_1, .int .i64 a1_2, .slice A1_3 l1_3.length c1_3, .slice A1_4 l1_4.length c1_4, .int .i64 a1_5, .int .i64 a1_6, .slice A1_7 l1_7.length c1_7, .int .i64 a1_8, .int .i64 a1_9, .int .i64 a1_10, .int .i64 a1_11]] w fun e w' => ∃ v3_ v4_ v7_ v12_ : Value, e = .returned (.tuple #[.agg #[.int .i64 r1, .int .i64 r2, .int .i64 r3, v3_, v4_, .int .i64 r6, .int .i64 r7, v7_, .int .i64 r9, .int .i64 r10, .int .i64 r11, .int .i64 r12, v12_, .int .i64 r14, .int .i64 r15, .int .i64 r16], .bool r17]) ∧ Kd.R k48 48 w' w.heap.size (fun _ => True) v3_ r4 ∧ Kd.R k101 101 w' w.heap.size (fun k_ => some k_ ≠ (v7_ : Value).ownBlock) v4_ r5 ∧ Kd.R k101 101 w' w.heap.size (fun k_ => some k_ ≠ (v4_ : Value).ownBlock) v7_ r8 ∧ Kd.R (Kd.int .i64) 3 w' w.heap.size (fun _ => True) v12_ r13 ∧ Below w.heap.size w w' := by
 have HT := Pst.A tab_
 clear tab_
 have hu41 := Tryz.underlying33
 have hu44 := Tryz.underlying36
 have HR3 := Pst.A hr1_3
 have HR4 := Pst.A hr1_4
 have HR7 := Pst.A hr1_7
 have HC3 := Pst.A hc1_3
 have HC4 := Pst.A hc1_4
 have HC7 := Pst.A hc1_7
 clear hr1_3 hr1_4 hr1_7 hc1_3 hc1_4 hc1_7
 have HB := Pst.A (Below.refl w.heap.size w)
 obtain ⟨P, AP, H⟩ := Option.bind_eq_some_iff.1 h
 replace AP := Pst.A AP
 clear h
 by_cases hP : 6 ≤ P.length ∧ P.length ≤ 25
 ·rw [if_pos hP] at H
  obtain ⟨⟨s1, s2, s3, s4, s5, s6, s7, s8, s9, s10, s11, s12⟩, AO, H⟩ := Option.bind_eq_some_iff.1 H
  obtain ⟨co, A0, H⟩ := Option.bind_eq_some_iff.1 H
  obtain ⟨wa, A2, H⟩ := Option.bind_eq_some_iff.1 H
  obtain ⟨y, AY, H⟩ := Option.bind_eq_some_iff.1 H
  obtain ⟨st, AS, H⟩ := Option.bind_eq_some_iff.1 H
  obtain ⟨oL, AL, H⟩ := Option.bind_eq_some_iff.1 H
  replace AO := Pst.A AO
  replace A0 := Pst.A A0
  replace A2 := Pst.A A2
  replace AY := Pst.A AY
  replace AS := Pst.A AS
  replace AL := Pst.A AL
  replace H := Pst.A H
  have hPb := decide_eq_true hP
  have HPL := Pst.A hP
  clear hP
  go_enter Tryz.func9, Tryz.ntmps9
  go_upto_region 4 with (first
   | ((with_reducible refine gate_dst (N := 3) rfl ?_); refine Pst.bx 3 #[.int .i64 a1_0, .int .i64 a1_1, .int .i64 a1_2, .slice A1_3 l1_3.length c1_3, .slice A1_4 l1_4.length c1_4, .int .i64 a1_5, .int .i64 a1_6, .slice A1_7 l1_7.length c1_7, .int .i64 a1_8, .int .i64 a1_9, .int .i64 a1_10, .int .i64 a1_11] 33 ?_; intro g3 hg wg3 hbox hb; have n0_ := Pst.A (below_step Pst.bel hb); have n1_ := Pst.A hbox; have n2_ := Pst.A (Pst.gs hg : w.heap.size ≤ g3); clear HB; have HB := n0_; have BKg3 := n1_; have GEg3 := n2_; clear n0_ n1_ n2_ ; clear hb hbox hg)
   | ((with_reducible refine gate_dst (N := 4) rfl ?_); refine Pst.bx 4 #[.int .i64 0, .int .i64 0, .int .i64 0, .slice none 0 0, .slice none 0 0, .int .i64 0, .int .i64 0, .slice none 0 0, .int .i64 0, .int .i64 0, .int .i64 0, .int .i64 0, .slice none 0 0, .int .i64 0, .int .i64 0, .int .i64 0] 36 ?_; intro g4 hg wg4 hbox hb; have n0_ := Pst.A (below_step Pst.bel hb); have n1_ := Pst.A hbox; have n2_ := Pst.A (Pst.gs hg : w.heap.size ≤ g4); have m0_ := Pst.A (Pst.kb BKg3.out hb); clear HB; have HB := n0_; have BKg4 := n1_; have GEg4 := n2_; clear BKg3; have BKg3 := m0_; clear n0_ n1_ n2_ m0_; clear hb hbox hg)
   | (go_at_call 24; refine (strings_Split.calls a0 (⟨#[32]⟩ : ByteArray) P _ AP.out (HT.out.on Pst.bel)).mono ?_; rintro e w5 ⟨v6, rfl, hR6, hb⟩; have m3_ := Pst.A hR6; have m0_ := Pst.A (below_step Pst.bel hb); have m1_ := Pst.A (Pst.kb BKg3.out hb); have m2_ := Pst.A (Pst.kb BKg4.out hb); have m4_ := Pst.A hb.size; clear hR6 hb; clear HB BKg3 BKg4; have HB := m0_; have BKg3 := m1_; have BKg4 := m2_; have HR6 := m3_; clear m0_ m1_ m2_ m3_ m4_; obtain ⟨A6, c6, e6⟩ := Kd.R_slice HR6.out; subst e6)
   | (go_at_call 25; refine (impl_in.calls (P.length : Int) 6 25 _ _ (implIn625 P)).mono ?_; rintro e w6 ⟨rfl, ⟨nd, rfl⟩⟩))
  obtain ⟨gp, cp, cur, e6, hgp, hcur, hpc, hcm, hS⟩ := ownStrings HR6.out (by have := HPL.out; omega)
  obtain ⟨rfl, rfl⟩ : A6 = some ⟨gp, 0, none⟩ ∧ c6 = cp := by injection e6 with q1 q2 q3; exact ⟨q1, q3⟩
  clear e6
  have BKp := Pst.A (show (w5.drewN nd).heap[gp]? = some (.cells cur 9 (0, 0)) from hcur)
  have HB6 := Pst.A (show Below w.heap.size w (w5.drewN nd) from Pst.bel)
  have BK3 := Pst.A (show (w5.drewN nd).heap[g3]? = some (.cells #[.int .i64 a1_0, .int .i64 a1_1, .int .i64 a1_2, .slice A1_3 l1_3.length c1_3, .slice A1_4 l1_4.length c1_4, .int .i64 a1_5, .int .i64 a1_6, .slice A1_7 l1_7.length c1_7, .int .i64 a1_8, .int .i64 a1_9, .int .i64 a1_10, .int .i64 a1_11] 33 (0, 0)) from BKg3.out)
  have BK4 := Pst.A (show (w5.drewN nd).heap[g4]? = some (.cells #[.int .i64 0, .int .i64 0, .int .i64 0, .slice none 0 0, .slice none 0 0, .int .i64 0, .int .i64 0, .slice none 0 0, .int .i64 0, .int .i64 0, .int .i64 0, .int .i64 0, .slice none 0 0, .int .i64 0, .int .i64 0, .int .i64 0] 36 (0, 0)) from BKg4.out)
  have HS := Pst.A hS
  have hi0 : (0 < P.length) = True := eq_true (by have := HPL.out; omega)
  have hi2 : (2 < (P.length : Int)) = True := eq_true (by have := HPL.out; omega)
  have hi4 : (4 < (P.length : Int)) = True := eq_true (by have := HPL.out; omega)
  clear HB BKg3 BKg4 hcur hS HR6 hgp
  generalize w5.drewN nd = w6 at HB6 BK3 BK4 BKp ⊢
  refine start_ (n := 18) (S := fun w' => True) (ds := []) q0_9 (by kernel_rfl) rfl rfl trivial (fun hHeld => ?_)
  refine with_tabW impl_ParseWorld.tab4 impl_ParseWorld.bits4 (fun HT_ HW_ => ?_)
  have HB : Aside0 (Below w6.heap.size w6 w6.drew) := Pst.A (below_drew1 (Below.refl _ _))
  refine pure_ (i := 2) (N := some 21) (v := ?_) (a' := ?_) q1_9 rfl rfl (any_of HT_.out (by kernel_rfl)) (fun _ _ _ h => h) (Or.inl ⟨by rfl, ?_⟩) ?_ ?_
  rotate_left
  ·intro w'
   go_simp
   with_reducible rfl
  rotate_left
  ·simp only [Pst.all]
   rfl
  refine pure_ (i := 3) (N := some 22) (v := ?_) (a' := ?_) q2_9 rfl rfl (any_of HT_.out (by kernel_rfl)) (fun _ _ _ h => h) (Or.inl ⟨by rfl, ?_⟩) ?_ ?_
  rotate_left
  ·intro w'
   go_simp
   with_reducible rfl
  rotate_left
  ·simp only [Pst.all]
   rfl
  refine pure_ (i := 6) (N := some 25) (v := ?_) (a' := ?_) q3_9 rfl rfl (any_of HT_.out (by kernel_rfl)) (fun _ _ _ h => h) (Or.inl ⟨by rfl, ?_⟩) ?_ ?_
  rotate_left
  ·intro w'
   go_simp
   with_reducible rfl
  rotate_left
  ·simp only [Pst.all]
   rfl
  refine pure_ (i := 7) (N := some 26) (v := ?_) (a' := ?_) q4_9 rfl rfl (any_of HT_.out (by kernel_rfl)) (fun _ _ _ h => h) (Or.inl ⟨by rfl, ?_⟩) ?_ ?_
  rotate_left
  ·intro w'
   go_simp
   with_reducible rfl
  rotate_left
  ·simp only [Pst.all]
   rfl
  refine pure_ (i := 10) (N := some 29) (v := ?_) (a' := ?_) q5_9 rfl rfl (any_of HT_.out (by kernel_rfl)) (fun _ _ _ h => h) (Or.inl ⟨by rfl, ?_⟩) ?_ ?_
  rotate_left
  ·intro w'
   go_simp
   with_reducible rfl
  rotate_left
  ·simp only [Pst.all]
   rfl
  refine pure_ (i := 11) (N := some 30) (v := ?_) (a' := ?_) q6_9 rfl rfl (any_of HT_.out (by kernel_rfl)) (fun _ _ _ h => h) (Or.inl ⟨by rfl, ?_⟩) ?_ ?_
  rotate_left
  ·intro w'
   go_simp
   with_reducible rfl
  rotate_left
  ·simp only [Pst.all]
   rfl
  refine inv_at [0, 1, 4, 5, 8, 9, 12, 13, 14, 15, 16, 17] (fun a0_ b a w' => ∃ (v3 : Value) (v4 : Value) (v7 : Value) (g7 : Nat) (m1_ : Value) (m15_ : Value) (m16_ : Value), a = putSel a0_ b [(0, 19, .agg #[.int .i64 a1_0, .int .i64 a1_1, .int .i64 a1_2, .slice A1_3 l1_3.length c1_3, .slice A1_4 l1_4.length c1_4, .int .i64 a1_5, .int .i64 a1_6, .slice A1_7 l1_7.length c1_7, .int .i64 a1_8, .int .i64 a1_9, .int .i64 a1_10, .int .i64 a1_11]), (1, 20, m1_), (4, 23, .string (rdOf ByteArray.empty P 0)), (5, 24, .int .i64 co), (8, 27, .string (rdOf ByteArray.empty P 2)), (9, 28, .int .i64 wa), (12, 31, .string (rdOf ByteArray.empty P 4)), (13, 32, .string y), (14, 33, .int .i64 st), (15, 34, m15_), (16, 7, m16_)] ∧ (Below w6.heap.size w6 w') ∧ (b 1 = true → Kd.R k48 48 w' w6.heap.size (fun _ => True) v3 s4) ∧ (b 1 = true → Kd.R k101 101 w' w6.heap.size (fun k_ => some k_ ≠ (v7 : Value).ownBlock) v4 s5) ∧ (b 1 = true → Kd.R k101 101 w' w6.heap.size (fun k_ => some k_ ≠ (v4 : Value).ownBlock) v7 s8) ∧ (b 16 = true → w6.heap.size ≤ g7) ∧ (b 16 = true → b 17 = false → w'.heap[g7]? = some (.cells #[.int .i64 0, .int .i64 0, .int .i64 0, .slice none 0 0, .slice none 0 0, .int .i64 0, .int .i64 0, .slice none 0 0, .int .i64 0, .int .i64 0, .int .i64 0, .int .i64 0, .slice none 0 0, .int .i64 0, .int .i64 0, .int .i64 0] 36 (0, 0))) ∧ (b 17 = true → w'.heap[g7]? = some (.cells #[.int .i64 s1, .int .i64 s2, .int .i64 s3, v3, v4, .int .i64 s6, .int .i64 s7, v7, .int .i64 s9, .int .i64 s10, .int .i64 s11, .int .i64 s12, .slice none 0 0, .int .i64 wa, .int .i64 st, .int .i64 co] 36 (0, 0))) ∧ (b 1 = true → (m1_ : Value) = .agg #[.int .i64 s1, .int .i64 s2, .int .i64 s3, v3, v4, .int .i64 s6, .int .i64 s7, v7, .int .i64 s9, .int .i64 s10, .int .i64 s11, .int .i64 s12]) ∧ (b 15 = true → (m15_ : Value) = .agg #[.int .i64 s1, .int .i64 s2, .int .i64 s3, v3, v4, .int .i64 s6, .int .i64 s7, v7, .int .i64 s9, .int .i64 s10, .int .i64 s11, .int .i64 s12, .slice none 0 0, .int .i64 wa, .int .i64 st, .int .i64 co]) ∧ (b 16 = true → (m16_ : Value) = .pointer (some ⟨g7, 0, none⟩))) HT_.out HW_.out (by kernel_rfl) (by kernel_rfl) ?_ ?_ ?_
  ·exact ⟨.bool false, .bool false, .bool false, 0, .bool false, .bool false, .bool false, by simp only [putSel, Bool.false_eq_true, if_false], HB.out, fun h_ => absurd h_ (by decide), fun h_ => absurd h_ (by decide), fun h_ => absurd h_ (by decide), fun h_ => absurd h_ (by decide), fun h_ => absurd h_ (by decide), fun h_ => absurd h_ (by decide), fun h_ => absurd h_ (by decide), fun h_ => absurd h_ (by decide), fun h_ => absurd h_ (by decide)⟩
  ·skip
   clear HB
   refine steps_cons ?_ ?_
   ·rintro b a w' ⟨v3, v4, v7, g7, m1_, m15_, m16_, ha, Q_HB, Q_HO3, Q_HO4, Q_HO7, Q_GE7, Q_BK7, Q_BKF, Q_X1_, Q_X15_, Q_X16_⟩ hb_ hon hoff
    refine ⟨_, rfl, fun K hK => ?_⟩
    have e3 : a.tmps[3]? = some (.pointer (some ⟨g3, 0, none⟩)) := by rw [ha]; exact (putSel_off rfl).trans rfl
    replace ha := Pst.A ha
    have HB := Pst.A Q_HB
    refine value_ (w1 := w') (v := .agg #[.int .i64 a1_0, .int .i64 a1_1, .int .i64 a1_2, .slice A1_3 l1_3.length c1_3, .slice A1_4 l1_4.length c1_4, .int .i64 a1_5, .int .i64 a1_6, .slice A1_7 l1_7.length c1_7, .int .i64 a1_8, .int .i64 a1_9, .int .i64 a1_10, .int .i64 a1_11]) (by rfl) rfl (loadAll 33 (.tmp 3) rfl g3 (by simp only [Act.eval, Array.getD_eq_getD_getElem?, e3, Option.getD_some]) 33 _ _ (blk_below BK3.out HB.out) Tryz.underlying33 rfl (by kernel_rfl)) ?_
    refine hK.out _ _ ⟨v3, v4, v7, g7, m1_, m15_, m16_, (by rw [ha.out]; exact putSel_upk 0 hb_ rfl rfl rfl), HB.out, fun h0_ => absurd ((hoff 1 (by kernel_rfl)).symm.trans h0_) (by decide), fun h0_ => absurd ((hoff 1 (by kernel_rfl)).symm.trans h0_) (by decide), fun h0_ => absurd ((hoff 1 (by kernel_rfl)).symm.trans h0_) (by decide), Q_GE7, fun h0_ h1_ => (Q_BK7 h0_ h1_), fun h0_ => absurd ((hoff 17 (by kernel_rfl)).symm.trans h0_) (by decide), fun h0_ => absurd ((hoff 1 (by kernel_rfl)).symm.trans h0_) (by decide), fun h0_ => absurd ((hoff 15 (by kernel_rfl)).symm.trans h0_) (by decide), Q_X16_⟩
   refine steps_cons ?_ ?_
   ·rintro b a w' ⟨v3, v4, v7, g7, m1_, m15_, m16_, ha, Q_HB, Q_HO3, Q_HO4, Q_HO7, Q_GE7, Q_BK7, Q_BKF, Q_X1_, Q_X15_, Q_X16_⟩ hb_ hon hoff
    refine ⟨_, rfl, fun K hK => ?_⟩
    have e19 : a.tmps[19]? = some (.agg #[.int .i64 a1_0, .int .i64 a1_1, .int .i64 a1_2, .slice A1_3 l1_3.length c1_3, .slice A1_4 l1_4.length c1_4, .int .i64 a1_5, .int .i64 a1_6, .slice A1_7 l1_7.length c1_7, .int .i64 a1_8, .int .i64 a1_9, .int .i64 a1_10, .int .i64 a1_11]) := by rw [ha]; exact putSel_on (e := (0, 19, .agg #[.int .i64 a1_0, .int .i64 a1_1, .int .i64 a1_2, .slice A1_3 l1_3.length c1_3, .slice A1_4 l1_4.length c1_4, .int .i64 a1_5, .int .i64 a1_6, .slice A1_7 l1_7.length c1_7, .int .i64 a1_8, .int .i64 a1_9, .int .i64 a1_10, .int .i64 a1_11])) 0 rfl rfl (hon 0 (by kernel_rfl)) rfl
    replace ha := Pst.A ha
    have HB := Pst.A Q_HB
    refine goes_ Tryz.func26 (by kernel_rfl) rfl #[.agg #[.int .i64 a1_0, .int .i64 a1_1, .int .i64 a1_2, .slice A1_3 l1_3.length c1_3, .slice A1_4 l1_4.length c1_4, .int .i64 a1_5, .int .i64 a1_6, .slice A1_7 l1_7.length c1_7, .int .i64 a1_8, .int .i64 a1_9, .int .i64 a1_10, .int .i64 a1_11]] (by rfl) rfl rfl (by first | (simp only [List.map_toArray, List.map_cons, List.map_nil, Act.eval, Array.getD_eq_getD_getElem?, Option.getD_some, e19]; done) | (simp only [List.map_toArray, List.map_cons, List.map_nil, Act.eval, Array.getD_eq_getD_getElem?, Option.getD_some, e19]; rfl)) ?_
    with_reducible refine (impl_ownSetup.calls a1_0 a1_1 a1_2 A1_3 c1_3 l1_3 A1_4 c1_4 l1_4 a1_5 a1_6 A1_7 c1_7 l1_7 a1_8 a1_9 a1_10 a1_11 s1 s2 s3 s4 s5 s6 s7 s8 s9 s10 s11 s12 _ (Kd.C_below HR3.out (below_step HB6.out HB.out)) HC3.out (Kd.C_below HR4.out (below_step HB6.out HB.out)) HC4.out (Kd.C_below HR7.out (below_step HB6.out HB.out)) HC7.out AO.out).mono ?_
    rintro e w2 ⟨v3_, v4_, v7_, rfl, hr3, hr4, hr7, hb⟩
    refine ⟨_, rfl, ?_⟩
    refine hK.out _ _ ⟨v3_, v4_, v7_, g7, (.agg #[.int .i64 s1, .int .i64 s2, .int .i64 s3, v3_, v4_, .int .i64 s6, .int .i64 s7, v7_, .int .i64 s9, .int .i64 s10, .int .i64 s11, .int .i64 s12]), m15_, m16_, (by rw [ha.out]; exact putSel_upk 1 hb_ rfl rfl rfl), below_step HB.out hb, fun _ => Kd.R_lower hr3 HB.out.size, fun _ => Kd.R_lower hr4 HB.out.size, fun _ => Kd.R_lower hr7 HB.out.size, Q_GE7, fun h0_ h1_ => blk_below (Q_BK7 h0_ h1_) hb, fun h0_ => absurd ((hoff 17 (by kernel_rfl)).symm.trans h0_) (by decide), fun _ => rfl, fun h0_ => absurd ((hoff 15 (by kernel_rfl)).symm.trans h0_) (by decide), Q_X16_⟩
   refine steps_cons ?_ ?_
   ·rintro b a w' ⟨v3, v4, v7, g7, m1_, m15_, m16_, ha, Q_HB, Q_HO3, Q_HO4, Q_HO7, Q_GE7, Q_BK7, Q_BKF, Q_X1_, Q_X15_, Q_X16_⟩ hb_ hon hoff
    refine ⟨_, rfl, fun K hK => ?_⟩
    have e22 : a.tmps[22]? = some (.pointer (some ⟨gp, 0, none⟩)) := by rw [ha]; exact (putSel_off rfl).trans rfl
    replace ha := Pst.A ha
    have HB := Pst.A Q_HB
    have hs_ : w'.cell? ⟨gp, 0, none⟩ = some (.string (rdOf ByteArray.empty P 0)) := (blk_cell (blk_below BKp.out HB.out) 0).trans (HS.out 0 (by have := HPL.out; omega))
    refine value_ (w1 := w') (v := .string (rdOf ByteArray.empty P 0)) (by rfl) rfl ?_ ?_
    ·go_simp
     (try simp only [i64_w])
     try rfl
    refine hK.out _ _ ⟨v3, v4, v7, g7, m1_, m15_, m16_, (by rw [ha.out]; exact putSel_upk 2 hb_ rfl rfl rfl), HB.out, fun h0_ => (Q_HO3 h0_), fun h0_ => (Q_HO4 h0_), fun h0_ => (Q_HO7 h0_), Q_GE7, fun h0_ h1_ => (Q_BK7 h0_ h1_), fun h0_ => absurd ((hoff 17 (by kernel_rfl)).symm.trans h0_) (by decide), Q_X1_, fun h0_ => absurd ((hoff 15 (by kernel_rfl)).symm.trans h0_) (by decide), Q_X16_⟩
   refine steps_cons ?_ ?_
   ·rintro b a w' ⟨v3, v4, v7, g7, m1_, m15_, m16_, ha, Q_HB, Q_HO3, Q_HO4, Q_HO7, Q_GE7, Q_BK7, Q_BKF, Q_X1_, Q_X15_, Q_X16_⟩ hb_ hon hoff
    refine ⟨_, rfl, fun K hK => ?_⟩
    have e23 : a.tmps[23]? = some (.string (rdOf ByteArray.empty P 0)) := by rw [ha]; exact putSel_on (e := (4, 23, .string (rdOf ByteArray.empty P 0))) 2 rfl rfl (hon 4 (by kernel_rfl)) rfl
    replace ha := Pst.A ha
    have HB := Pst.A Q_HB
    have HO3 := Pst.A (Q_HO3 (hon 1 (by kernel_rfl)))
    have HO4 := Pst.A (Q_HO4 (hon 1 (by kernel_rfl)))
    have HO7 := Pst.A (Q_HO7 (hon 1 (by kernel_rfl)))
    refine goes_ Tryz.func27 (by kernel_rfl) rfl #[.string (rdOf ByteArray.empty P 0)] (by rfl) rfl rfl (by first | (simp only [List.map_toArray, List.map_cons, List.map_nil, Act.eval, Array.getD_eq_getD_getElem?, Option.getD_some, e23]; done) | (simp only [List.map_toArray, List.map_cons, List.map_nil, Act.eval, Array.getD_eq_getD_getElem?, Option.getD_some, e23]; rfl)) ?_
    with_reducible refine (impl_atoi.calls (rdOf ByteArray.empty P 0) co _ A0.out (HT.out.on (below_step HB6.out HB.out))).mono ?_
    rintro e w2 ⟨rfl, hb⟩
    refine ⟨_, rfl, ?_⟩
    refine hK.out _ _ ⟨v3, v4, v7, g7, m1_, m15_, m16_, (by rw [ha.out]; exact putSel_upk 3 hb_ rfl rfl rfl), below_step HB.out hb, fun _ => Kd.R_below HO3.out hb, fun _ => Kd.R_below HO4.out hb, fun _ => Kd.R_below HO7.out hb, Q_GE7, fun h0_ h1_ => blk_below (Q_BK7 h0_ h1_) hb, fun h0_ => absurd ((hoff 17 (by kernel_rfl)).symm.trans h0_) (by decide), Q_X1_, fun h0_ => absurd ((hoff 15 (by kernel_rfl)).symm.trans h0_) (by decide), Q_X16_⟩
   refine steps_cons ?_ ?_
   ·rintro b a w' ⟨v3, v4, v7, g7, m1_, m15_, m16_, ha, Q_HB, Q_HO3, Q_HO4, Q_HO7, Q_GE7, Q_BK7, Q_BKF, Q_X1_, Q_X15_, Q_X16_⟩ hb_ hon hoff
    refine ⟨_, rfl, fun K hK => ?_⟩
    have e26 : a.tmps[26]? = some (.pointer (some ⟨gp, 2, none⟩)) := by rw [ha]; exact (putSel_off rfl).trans rfl
    replace ha := Pst.A ha
    have HB := Pst.A Q_HB
    have hs_ : w'.cell? ⟨gp, 2, none⟩ = some (.string (rdOf ByteArray.empty P 2)) := (blk_cell (blk_below BKp.out HB.out) 2).trans (HS.out 2 (by have := HPL.out; omega))
    refine value_ (w1 := w') (v := .string (rdOf ByteArray.empty P 2)) (by rfl) rfl ?_ ?_
    ·go_simp
     (try simp only [i64_w])
     try rfl
    refine hK.out _ _ ⟨v3, v4, v7, g7, m1_, m15_, m16_, (by rw [ha.out]; exact putSel_upk 4 hb_ rfl rfl rfl), HB.out, fun h0_ => (Q_HO3 h0_), fun h0_ => (Q_HO4 h0_), fun h0_ => (Q_HO7 h0_), Q_GE7, fun h0_ h1_ => (Q_BK7 h0_ h1_), fun h0_ => absurd ((hoff 17 (by kernel_rfl)).symm.trans h0_) (by decide), Q_X1_, fun h0_ => absurd ((hoff 15 (by kernel_rfl)).symm.trans h0_) (by decide), Q_X16_⟩
   refine steps_cons ?_ ?_
   ·rintro b a w' ⟨v3, v4, v7, g7, m1_, m15_, m16_, ha, Q_HB, Q_HO3, Q_HO4, Q_HO7, Q_GE7, Q_BK7, Q_BKF, Q_X1_, Q_X15_, Q_X16_⟩ hb_ hon hoff
    refine ⟨_, rfl, fun K hK => ?_⟩
    have e27 : a.tmps[27]? = some (.string (rdOf ByteArray.empty P 2)) := by rw [ha]; exact putSel_on (e := (8, 27, .string (rdOf ByteArray.empty P 2))) 4 rfl rfl (hon 8 (by kernel_rfl)) rfl
    replace ha := Pst.A ha
    have HB := Pst.A Q_HB
    have HO3 := Pst.A (Q_HO3 (hon 1 (by kernel_rfl)))
    have HO4 := Pst.A (Q_HO4 (hon 1 (by kernel_rfl)))
    have HO7 := Pst.A (Q_HO7 (hon 1 (by kernel_rfl)))
    refine goes_ Tryz.func27 (by kernel_rfl) rfl #[.string (rdOf ByteArray.empty P 2)] (by rfl) rfl rfl (by first | (simp only [List.map_toArray, List.map_cons, List.map_nil, Act.eval, Array.getD_eq_getD_getElem?, Option.getD_some, e27]; done) | (simp only [List.map_toArray, List.map_cons, List.map_nil, Act.eval, Array.getD_eq_getD_getElem?, Option.getD_some, e27]; rfl)) ?_
    with_reducible refine (impl_atoi.calls (rdOf ByteArray.empty P 2) wa _ A2.out (HT.out.on (below_step HB6.out HB.out))).mono ?_
    rintro e w2 ⟨rfl, hb⟩
    refine ⟨_, rfl, ?_⟩
    refine hK.out _ _ ⟨v3, v4, v7, g7, m1_, m15_, m16_, (by rw [ha.out]; exact putSel_upk 5 hb_ rfl rfl rfl), below_step HB.out hb, fun _ => Kd.R_below HO3.out hb, fun _ => Kd.R_below HO4.out hb, fun _ => Kd.R_below HO7.out hb, Q_GE7, fun h0_ h1_ => blk_below (Q_BK7 h0_ h1_) hb, fun h0_ => absurd ((hoff 17 (by kernel_rfl)).symm.trans h0_) (by decide), Q_X1_, fun h0_ => absurd ((hoff 15 (by kernel_rfl)).symm.trans h0_) (by decide), Q_X16_⟩
   refine steps_cons ?_ ?_
   ·rintro b a w' ⟨v3, v4, v7, g7, m1_, m15_, m16_, ha, Q_HB, Q_HO3, Q_HO4, Q_HO7, Q_GE7, Q_BK7, Q_BKF, Q_X1_, Q_X15_, Q_X16_⟩ hb_ hon hoff
    refine ⟨_, rfl, fun K hK => ?_⟩
    have e30 : a.tmps[30]? = some (.pointer (some ⟨gp, 4, none⟩)) := by rw [ha]; exact (putSel_off rfl).trans rfl
    replace ha := Pst.A ha
    have HB := Pst.A Q_HB
    have hs_ : w'.cell? ⟨gp, 4, none⟩ = some (.string (rdOf ByteArray.empty P 4)) := (blk_cell (blk_below BKp.out HB.out) 4).trans (HS.out 4 (by have := HPL.out; omega))
    refine value_ (w1 := w') (v := .string (rdOf ByteArray.empty P 4)) (by rfl) rfl ?_ ?_
    ·go_simp
     (try simp only [i64_w])
     try rfl
    refine hK.out _ _ ⟨v3, v4, v7, g7, m1_, m15_, m16_, (by rw [ha.out]; exact putSel_upk 6 hb_ rfl rfl rfl), HB.out, fun h0_ => (Q_HO3 h0_), fun h0_ => (Q_HO4 h0_), fun h0_ => (Q_HO7 h0_), Q_GE7, fun h0_ h1_ => (Q_BK7 h0_ h1_), fun h0_ => absurd ((hoff 17 (by kernel_rfl)).symm.trans h0_) (by decide), Q_X1_, fun h0_ => absurd ((hoff 15 (by kernel_rfl)).symm.trans h0_) (by decide), Q_X16_⟩
   refine steps_cons ?_ ?_
   ·rintro b a w' ⟨v3, v4, v7, g7, m1_, m15_, m16_, ha, Q_HB, Q_HO3, Q_HO4, Q_HO7, Q_GE7, Q_BK7, Q_BKF, Q_X1_, Q_X15_, Q_X16_⟩ hb_ hon hoff
    refine ⟨_, rfl, fun K hK => ?_⟩
    have e31 : a.tmps[31]? = some (.string (rdOf ByteArray.empty P 4)) := by rw [ha]; exact putSel_on (e := (12, 31, .string (rdOf ByteArray.empty P 4))) 6 rfl rfl (hon 12 (by kernel_rfl)) rfl
    replace ha := Pst.A ha
    have HB := Pst.A Q_HB
    have HO3 := Pst.A (Q_HO3 (hon 1 (by kernel_rfl)))
    have HO4 := Pst.A (Q_HO4 (hon 1 (by kernel_rfl)))
    have HO7 := Pst.A (Q_HO7 (hon 1 (by kernel_rfl)))
    refine goes_ Tryz.func28 (by kernel_rfl) rfl #[.string (rdOf ByteArray.empty P 4), .string (⟨#[58]⟩ : ByteArray)] (by rfl) rfl rfl (by first | (simp only [List.map_toArray, List.map_cons, List.map_nil, Act.eval, Array.getD_eq_getD_getElem?, Option.getD_some, e31]; done) | (simp only [List.map_toArray, List.map_cons, List.map_nil, Act.eval, Array.getD_eq_getD_getElem?, Option.getD_some, e31]; rfl)) ?_
    with_reducible refine (strings_TrimSuffix.calls (rdOf ByteArray.empty P 4) (⟨#[58]⟩ : ByteArray) y _ AY.out).mono ?_
    rintro e w2 ⟨rfl, hb⟩
    refine ⟨_, rfl, ?_⟩
    refine hK.out _ _ ⟨v3, v4, v7, g7, m1_, m15_, m16_, (by rw [ha.out]; exact putSel_upk 7 hb_ rfl rfl rfl), below_step HB.out hb, fun _ => Kd.R_below HO3.out hb, fun _ => Kd.R_below HO4.out hb, fun _ => Kd.R_below HO7.out hb, Q_GE7, fun h0_ h1_ => blk_below (Q_BK7 h0_ h1_) hb, fun h0_ => absurd ((hoff 17 (by kernel_rfl)).symm.trans h0_) (by decide), Q_X1_, fun h0_ => absurd ((hoff 15 (by kernel_rfl)).symm.trans h0_) (by decide), Q_X16_⟩
   refine steps_cons ?_ ?_
   ·rintro b a w' ⟨v3, v4, v7, g7, m1_, m15_, m16_, ha, Q_HB, Q_HO3, Q_HO4, Q_HO7, Q_GE7, Q_BK7, Q_BKF, Q_X1_, Q_X15_, Q_X16_⟩ hb_ hon hoff
    refine ⟨_, rfl, fun K hK => ?_⟩
    have e32 : a.tmps[32]? = some (.string y) := by rw [ha]; exact putSel_on (e := (13, 32, .string y)) 7 rfl rfl (hon 13 (by kernel_rfl)) rfl
    replace ha := Pst.A ha
    have HB := Pst.A Q_HB
    have HO3 := Pst.A (Q_HO3 (hon 1 (by kernel_rfl)))
    have HO4 := Pst.A (Q_HO4 (hon 1 (by kernel_rfl)))
    have HO7 := Pst.A (Q_HO7 (hon 1 (by kernel_rfl)))
    refine goes_ Tryz.func27 (by kernel_rfl) rfl #[.string y] (by rfl) rfl rfl (by first | (simp only [List.map_toArray, List.map_cons, List.map_nil, Act.eval, Array.getD_eq_getD_getElem?, Option.getD_some, e32]; done) | (simp only [List.map_toArray, List.map_cons, List.map_nil, Act.eval, Array.getD_eq_getD_getElem?, Option.getD_some, e32]; rfl)) ?_
    with_reducible refine (impl_atoi.calls y st _ AS.out (HT.out.on (below_step HB6.out HB.out))).mono ?_
    rintro e w2 ⟨rfl, hb⟩
    refine ⟨_, rfl, ?_⟩
    refine hK.out _ _ ⟨v3, v4, v7, g7, m1_, m15_, m16_, (by rw [ha.out]; exact putSel_upk 8 hb_ rfl rfl rfl), below_step HB.out hb, fun _ => Kd.R_below HO3.out hb, fun _ => Kd.R_below HO4.out hb, fun _ => Kd.R_below HO7.out hb, Q_GE7, fun h0_ h1_ => blk_below (Q_BK7 h0_ h1_) hb, fun h0_ => absurd ((hoff 17 (by kernel_rfl)).symm.trans h0_) (by decide), Q_X1_, fun h0_ => absurd ((hoff 15 (by kernel_rfl)).symm.trans h0_) (by decide), Q_X16_⟩
   refine steps_cons ?_ ?_
   ·rintro b a w' ⟨v3, v4, v7, g7, m1_, m15_, m16_, ha, Q_HB, Q_HO3, Q_HO4, Q_HO7, Q_GE7, Q_BK7, Q_BKF, Q_X1_, Q_X15_, Q_X16_⟩ hb_ hon hoff
    refine ⟨_, rfl, fun K hK => ?_⟩
    have e20 : a.tmps[20]? = some (m1_) := by rw [ha]; exact putSel_on (e := (1, 20, m1_)) 1 rfl rfl (hon 1 (by kernel_rfl)) rfl
    rw [Q_X1_ (hon 1 (by kernel_rfl))] at e20
    have e24 : a.tmps[24]? = some (.int .i64 co) := by rw [ha]; exact putSel_on (e := (5, 24, .int .i64 co)) 3 rfl rfl (hon 5 (by kernel_rfl)) rfl
    have e28 : a.tmps[28]? = some (.int .i64 wa) := by rw [ha]; exact putSel_on (e := (9, 28, .int .i64 wa)) 5 rfl rfl (hon 9 (by kernel_rfl)) rfl
    have e33 : a.tmps[33]? = some (.int .i64 st) := by rw [ha]; exact putSel_on (e := (14, 33, .int .i64 st)) 8 rfl rfl (hon 14 (by kernel_rfl)) rfl
    replace ha := Pst.A ha
    have HB := Pst.A Q_HB
    have HO3 := Pst.A (Q_HO3 (hon 1 (by kernel_rfl)))
    have HO4 := Pst.A (Q_HO4 (hon 1 (by kernel_rfl)))
    have HO7 := Pst.A (Q_HO7 (hon 1 (by kernel_rfl)))
    refine value_ (w1 := w') (v := .agg #[.int .i64 s1, .int .i64 s2, .int .i64 s3, v3, v4, .int .i64 s6, .int .i64 s7, v7, .int .i64 s9, .int .i64 s10, .int .i64 s11, .int .i64 s12, .slice none 0 0, .int .i64 wa, .int .i64 st, .int .i64 co]) (by rfl) rfl ?_ ?_
    ·go_simp
     (try simp only [i64_w])
     try rfl
    refine hK.out _ _ ⟨v3, v4, v7, g7, m1_, (.agg #[.int .i64 s1, .int .i64 s2, .int .i64 s3, v3, v4, .int .i64 s6, .int .i64 s7, v7, .int .i64 s9, .int .i64 s10, .int .i64 s11, .int .i64 s12, .slice none 0 0, .int .i64 wa, .int .i64 st, .int .i64 co]), m16_, (by rw [ha.out]; exact putSel_upk 9 hb_ rfl rfl rfl), HB.out, fun _ => HO3.out, fun _ => HO4.out, fun _ => HO7.out, Q_GE7, fun h0_ h1_ => (Q_BK7 h0_ h1_), fun h0_ => absurd ((hoff 17 (by kernel_rfl)).symm.trans h0_) (by decide), Q_X1_, fun _ => rfl, Q_X16_⟩
   refine steps_cons ?_ ?_
   ·rintro b a w' ⟨v3, v4, v7, g7, m1_, m15_, m16_, ha, Q_HB, Q_HO3, Q_HO4, Q_HO7, Q_GE7, Q_BK7, Q_BKF, Q_X1_, Q_X15_, Q_X16_⟩ hb_ hon hoff
    refine ⟨_, rfl, fun K hK => ?_⟩
    replace ha := Pst.A ha
    have HB := Pst.A Q_HB
    refine value_ (w1 := w'.alloc (.cells #[.int .i64 0, .int .i64 0, .int .i64 0, .slice none 0 0, .slice none 0 0, .int .i64 0, .int .i64 0, .slice none 0 0, .int .i64 0, .int .i64 0, .int .i64 0, .int .i64 0, .slice none 0 0, .int .i64 0, .int .i64 0, .int .i64 0] 36 (0, 0))) (v := .pointer (some ⟨w'.heap.size, 0, none⟩)) (by rfl) rfl (by first | (go_simp; done) | (go_simp; rfl)) ?_
    refine hK.out _ _ ⟨v3, v4, v7, w'.heap.size, m1_, m15_, (.pointer (some ⟨w'.heap.size, 0, none⟩)), (by rw [ha.out]; exact putSel_upk 10 hb_ rfl rfl rfl), below_alloc HB.out _, fun h0_ => Kd.R_below (Q_HO3 h0_) (below_alloc (Below.refl _ _) _), fun h0_ => Kd.R_below (Q_HO4 h0_) (below_alloc (Below.refl _ _) _), fun h0_ => Kd.R_below (Q_HO7 h0_) (below_alloc (Below.refl _ _) _), fun _ => HB.out.size, fun _ _ => blk_new w' _, fun h0_ => absurd ((hoff 17 (by kernel_rfl)).symm.trans h0_) (by decide), Q_X1_, Q_X15_, fun _ => rfl⟩
   refine steps_cons ?_ ?_
   ·rintro b a w' ⟨v3, v4, v7, g7, m1_, m15_, m16_, ha, Q_HB, Q_HO3, Q_HO4, Q_HO7, Q_GE7, Q_BK7, Q_BKF, Q_X1_, Q_X15_, Q_X16_⟩ hb_ hon hoff
    refine ⟨_, rfl, fun K hK => ?_⟩
    have e7 : a.tmps[7]? = some (m16_) := by rw [ha]; exact putSel_on (e := (16, 7, m16_)) 10 rfl rfl (hon 16 (by kernel_rfl)) rfl
    rw [Q_X16_ (hon 16 (by kernel_rfl))] at e7
    have e34 : a.tmps[34]? = some (m15_) := by rw [ha]; exact putSel_on (e := (15, 34, m15_)) 9 rfl rfl (hon 15 (by kernel_rfl)) rfl
    rw [Q_X15_ (hon 15 (by kernel_rfl))] at e34
    replace ha := Pst.A ha
    have HB := Pst.A Q_HB
    have HO3 := Pst.A (Q_HO3 (hon 1 (by kernel_rfl)))
    have HO4 := Pst.A (Q_HO4 (hon 1 (by kernel_rfl)))
    have HO7 := Pst.A (Q_HO7 (hon 1 (by kernel_rfl)))
    have GE7 := Pst.A (Q_GE7 (hon 16 (by kernel_rfl)))
    have BK7 := Pst.A (Q_BK7 (hon 16 (by kernel_rfl)) hb_)
    refine storeStep (by rfl) rfl 36 (.tmp 7) (.tmp 34) rfl g7 #[.int .i64 s1, .int .i64 s2, .int .i64 s3, v3, v4, .int .i64 s6, .int .i64 s7, v7, .int .i64 s9, .int .i64 s10, .int .i64 s11, .int .i64 s12, .slice none 0 0, .int .i64 wa, .int .i64 st, .int .i64 co] (by simp only [Act.eval, Array.getD_eq_getD_getElem?, e7, Option.getD_some]) (by simp only [Act.eval, Array.getD_eq_getD_getElem?, e34, Option.getD_some]) 36 #[.int .i64 0, .int .i64 0, .int .i64 0, .slice none 0 0, .slice none 0 0, .int .i64 0, .int .i64 0, .slice none 0 0, .int .i64 0, .int .i64 0, .int .i64 0, .int .i64 0, .slice none 0 0, .int .i64 0, .int .i64 0, .int .i64 0] BK7.out (by kernel_rfl) rfl (by simp [R_oneCell HO3.out, R_oneCell HO4.out, R_oneCell HO7.out, oneInt, oneSlice]) ?_
    intro w2 hbs hgs
    refine hK.out _ _ ⟨v3, v4, v7, g7, m1_, m15_, m16_, (by rw [ha.out]; exact putSel_none (v := undef) rfl), pw_below_grown HB.out (some g7) HB.out.size hgs (fun k_ hk_ => by cases hk_; exact GE7.out), fun _ => Kd.R_mono (Kd.R_kept (Kd.R_types HO3.out BK7.out (by decide)) (S := fun k => k = g7) ⟨hgs.size, fun i hi hn => hgs.block i hi (fun he => hn (Option.some.inj he))⟩ (fun _ hk => hk.2)) (fun _ hk => hk.1), fun _ => Kd.R_mono (Kd.R_kept (Kd.R_types HO4.out BK7.out (by decide)) (S := fun k => k = g7) ⟨hgs.size, fun i hi hn => hgs.block i hi (fun he => hn (Option.some.inj he))⟩ (fun _ hk => hk.2)) (fun _ hk => hk.1), fun _ => Kd.R_mono (Kd.R_kept (Kd.R_types HO7.out BK7.out (by decide)) (S := fun k => k = g7) ⟨hgs.size, fun i hi hn => hgs.block i hi (fun he => hn (Option.some.inj he))⟩ (fun _ hk => hk.2)) (fun _ hk => hk.1), Q_GE7, fun _ h1_ => absurd ((up_self b 17).symm.trans h1_) (by decide), fun _ => hbs, Q_X1_, Q_X15_, Q_X16_⟩
   exact steps_nil
  rintro b a w7 hall ⟨v3, v4, v7, g7, m1_, m15_, m16_, ha, Q_HB, Q_HO3, Q_HO4, Q_HO7, Q_GE7, Q_BK7, Q_BKF, Q_X1_, Q_X15_, Q_X16_⟩
  clear HB
  have hb0_ := hall 0 (by kernel_rfl)
  have hb1_ := hall 1 (by kernel_rfl)
  have hb4_ := hall 4 (by kernel_rfl)
  have hb5_ := hall 5 (by kernel_rfl)
  have hb8_ := hall 8 (by kernel_rfl)
  have hb9_ := hall 9 (by kernel_rfl)
  have hb12_ := hall 12 (by kernel_rfl)
  have hb13_ := hall 13 (by kernel_rfl)
  have hb14_ := hall 14 (by kernel_rfl)
  have hb15_ := hall 15 (by kernel_rfl)
  have hb16_ := hall 16 (by kernel_rfl)
  have hb17_ := hall 17 (by kernel_rfl)
  subst ha
  obtain rfl := Q_X1_ hb1_
  obtain rfl := Q_X15_ hb15_
  obtain rfl := Q_X16_ hb16_
  simp only [putSel, hb0_, hb1_, hb4_, hb5_, hb8_, hb9_, hb12_, hb13_, hb14_, hb15_, hb16_, hb17_, if_true, Act.put, List.setIfInBounds_toArray, List.set_cons_zero, List.set_cons_succ]
  have HB := Pst.A Q_HB
  clear Q_HB
  have HO3 := Pst.A (Q_HO3 hb1_)
  clear Q_HO3
  have HO4 := Pst.A (Q_HO4 hb1_)
  clear Q_HO4
  have HO7 := Pst.A (Q_HO7 hb1_)
  clear Q_HO7
  have GE7 := Pst.A (Q_GE7 hb16_)
  clear Q_GE7 Q_BK7
  have BKF := Pst.A (Q_BKF hb17_)
  clear Q_BKF hall hb0_ hb1_ hb4_ hb5_ hb8_ hb9_ hb12_ hb13_ hb14_ hb15_ hb16_ hb17_
  obtain ⟨A3, c3, e3_⟩ := Kd.R_slice HO3.out
  obtain ⟨A4, c4, e4_⟩ := Kd.R_slice HO4.out
  obtain ⟨A7, c7, e7_⟩ := Kd.R_slice HO7.out
  subst e3_
  subst e4_
  subst e7_
  have HBr := HB
  have HB := Pst.A (below_step HB6.out HBr.out)
  have NE4 := Pst.A (show ¬ g4 = g7 from fun e_ => by have h1_ := GE7.out; have h2_ := blk_lt BK4.out; omega)
  have NEp := Pst.A (show ¬ gp = g7 from fun e_ => by have h1_ := GE7.out; have h2_ := blk_lt BKp.out; omega)
  have GE4 := Pst.A (show w.heap.size ≤ g4 from GEg4.out)
  clear hHeld HT_ HW_ BK3 hi0 hi2 hi4 GEg3
  have h56 : 5 ≤ P.length := by have := HPL.out; omega
  have h65 : ¬ c6 = 5 := by have := HPL.out; omega
  have hcm2 : c6 ≤ 9223372036854775807 := by have : maxLen = 9223372036854775807 := rfl; omega
  clear hcm
  go_wp2
  go_loopg [38] (P.length - 5) (fun gg v38 wr => ∃ (ii : Nat) (acc : List Int) (v12 : Value), v38 = .int .i64 ii ∧ P.length - 5 - ii ≤ gg ∧ ii ≤ P.length - 5 ∧ Aside0 (impl_ParseWorld.l0 k (P.drop (5 + ii)) acc = some oL) ∧ Aside0 (acc.length ≤ ii) ∧ Aside0 (Below w.heap.size w wr) ∧ Aside0 (Kept w7 wr (fun k => k = g7)) ∧ Aside0 (wr.heap[g7]? = some (.cells #[.int .i64 s1, .int .i64 s2, .int .i64 s3, .slice A3 s4.length c3, .slice A4 s5.length c4, .int .i64 s6, .int .i64 s7, .slice A7 s8.length c7, .int .i64 s9, .int .i64 s10, .int .i64 s11, .int .i64 s12, v12, .int .i64 wa, .int .i64 st, .int .i64 co] 36 (0, 0))) ∧ Aside0 (Kd.R (Kd.int .i64) 3 wr w.heap.size (fun k => w7.heap.size ≤ k) v12 acc))
  case atStart => exact ⟨0, [], .slice none 0 0, rfl, by omega, by omega, AL, ⟨Nat.le_refl _⟩, HB, ⟨Kept.refl _ _⟩, BKF, ⟨Kd.R_nil _ _ _ _ _⟩⟩
  clear HB
  obtain ⟨ii, acc, v12, rfl, hgg, hii, AH, HAC, HB, AK, BK, HL⟩ := hrel
  by_cases hlt : ii < P.length - 5
  ·have hd : P.drop (5 + ii) = rdOf ByteArray.empty P ((5 + ii : Nat) : Int) :: P.drop (5 + (ii + 1)) := dropRd P (5 + ii) (by omega)
   have AH2 := AH.out
   rw [hd, show ((5 + ii : Nat) : Int) = 5 + (ii : Int) from by omega] at AH2
   obtain ⟨⟨ld, ok⟩, Am, AH3⟩ := Option.bind_eq_some_iff.1 AH2
   replace Am := Pst.A Am
   clear hd AH AH2
   have hcs := (blk_cell (blk_kept (blk_below BKp.out HBr.out) AK.out NEp.out) (5 + ii)).trans (HS.out (5 + ii) (by omega))
   rw [show ((5 + ii : Nat) : Int) = 5 + (ii : Int) from by omega] at hcs
   have hlb : decide (ii < P.length - 5) = true := decide_eq_true hlt
   cases ok with
   | false =>
    obtain rfl : none = oL := by simpa using AH3
    clear AH3
    have H1 := H.out
    obtain ⟨rfl, rfl, rfl, rfl, rfl, rfl, rfl, rfl, rfl, rfl, rfl, rfl, rfl, rfl, rfl, rfl, rfl⟩ := noWorldIs H1
    clear H H1
    go_wp2_with (first
     | (go_at_call 29; refine (impl_ParseMilli.calls k (rdOf ByteArray.empty P (5 + (ii : Int))) ld _ _ Am.out (HT.out.on Pst.bel)).mono ?_; rintro e w9 ⟨rfl, hb⟩; have m0_ := Pst.A (below_step Pst.bel hb); have m1_ := Pst.A ((AK.out).below hb); have m2_ := Pst.A (blk_below BK.out hb); have m3_ := Pst.A (Kd.R_below HL.out hb); clear HB AK BK HL; have HB := m0_; have AK := m1_; have BK := m2_; have HL := m3_; clear m0_ m1_ m2_ m3_ hb)
     | ((with_reducible refine gate_ (.store 36 (.tmp 4) (.tmp 49)) rfl ?_); refine storeAll rfl 36 (.tmp 4) (.tmp 49) rfl g4 #[.int .i64 0, .int .i64 0, .int .i64 0, .slice none 0 0, .slice none 0 0, .int .i64 0, .int .i64 0, .slice none 0 0, .int .i64 0, .int .i64 0, .int .i64 0, .int .i64 0, .slice none 0 0, .int .i64 0, .int .i64 0, .int .i64 0] rfl rfl 36 #[.int .i64 0, .int .i64 0, .int .i64 0, .slice none 0 0, .slice none 0 0, .int .i64 0, .int .i64 0, .slice none 0 0, .int .i64 0, .int .i64 0, .int .i64 0, .int .i64 0, .slice none 0 0, .int .i64 0, .int .i64 0, .int .i64 0] ?hb (by kernel_rfl) rfl (by simp [Value.oneCell']) ?_; (case hb => exact (blk_kept (blk_below BK4.out HBr.out) AK.out NE4.out)); intro ws hbs hgs; have n_ := Pst.A (pw_below_grown Pst.bel (some g4) (below_size Pst.bel) hgs (fun k_ hk_ => by cases hk_; exact GEg4.out)); clear HB; have HB := n_; clear n_; have BKz := Pst.A hbs; clear hbs hgs))
    refine bodyPost_ret (results_ct rfl _ _ g4 36 #[.int .i64 0, .int .i64 0, .int .i64 0, .slice none 0 0, .slice none 0 0, .int .i64 0, .int .i64 0, .slice none 0 0, .int .i64 0, .int .i64 0, .int .i64 0, .int .i64 0, .slice none 0 0, .int .i64 0, .int .i64 0, .int .i64 0] (0, 0) _ rfl BKz.out Tryz.underlying36 rfl (by kernel_rfl)) rfl ?_
    exact ⟨_, _, _, _, rfl, Kd.R_nil _ _ _ _ _, Kd.R_nil _ _ _ _ _, Kd.R_nil _ _ _ _ _, Kd.R_nil _ _ _ _ _, Pst.bel⟩
   | true =>
    have AH4 : impl_ParseWorld.l0 k (P.drop (5 + (ii + 1))) (acc ++ [ld]) = some oL := AH3
    clear AH3
    obtain ⟨acc2, hy⟩ : ∃ y_ : List Int, y_ = acc ++ [ld] := ⟨_, rfl⟩
    rw [← hy] at AH4
    have AH := Pst.A AH4
    have HAC2 := Pst.A (show acc2.length ≤ ii + 1 from by have := HAC.out; rw [hy, List.length_append, List.length_singleton]; omega)
    have HY := Pst.A hy
    clear hy AH4
    go_wp2_with (first
     | (go_at_call 29; refine (impl_ParseMilli.calls k (rdOf ByteArray.empty P (5 + (ii : Int))) ld _ _ Am.out (HT.out.on Pst.bel)).mono ?_; rintro e w9 ⟨rfl, hb⟩; have m0_ := Pst.A (below_step Pst.bel hb); have m1_ := Pst.A ((AK.out).below hb); have m2_ := Pst.A (blk_below BK.out hb); have m3_ := Pst.A (Kd.R_below HL.out hb); clear HB AK BK HL; have HB := m0_; have AK := m1_; have BK := m2_; have HL := m3_; clear m0_ m1_ m2_ m3_ hb; have hc12 : w9.cell? ⟨g7, 12, none⟩ = some v12 := (blk_cell BK.out 12).trans rfl)
     | ((with_reducible refine gate_builtin (b := .append) (xs := #[.tmp 51, .tmp 53]) rfl ?_); at_builtin; refine Kd.R_append (Kd.int .i64) (w0 := w) w.heap.size rfl (.tmp 51) (.tmp 53) 34 3 (.int .i64 0) 8 rfl Tryz.underlying34 infoInt rfl (by decide) (by omega) v12 acc ld [.int .i64 ld] (fun k => w7.heap.size ≤ k) (fun _ => False) rfl rfl ?aP (fun _ hk => hk.elim) ?aF ?aO ?aB ?aS ?aL ?_; (case aP => exact rfl); (case aB => exact Pst.bel); (case aF => exact (fun _ h_ => Nat.le_trans AK.out.1 h_)); (case aO => exact (Pst.qr HL.out)); (case aS => exact (below_size Pst.bel)); (case aL => have := HAC.out; have := HPL.out; omega); intro v13 w11 ho hb hg hat; rw [← HY.out] at ho; obtain ⟨A13, c13, e13⟩ := Kd.R_slice ho; subst e13; have hne : some g7 ≠ v12.ownBlock := fun e_ => (by have h1_ := HL.out.1 g7 e_.symm; have h2_ := blk_lt BKF.out; omega); have m0_ := Pst.A hb; have m1_ := Pst.A (Kept.of_grown hg (AK.out) (fun q_ h_ => .inr (HL.out.1 q_ h_))); have m2_ := Pst.A (blk_grown BK.out hg hne); have m3_ := Pst.A ho; clear HB AK BK HL ho hb hg hat hne; have HB := m0_; have AK := m1_; have BK := m2_; have HL := m3_; clear m0_ m1_ m2_ m3_; have hc13 : w11.cell? ⟨g7, 12, none⟩ = some v12 := (blk_cell BK.out 12).trans rfl; have hf13 : w11.frozen? ⟨g7, 12, none⟩ = false := blk_frozen BK.out 12))
    have q1_ := Pst.A (below_set (j := 12) (v := .slice A13 acc2.length c13) HB.out (show w.heap.size ≤ g7 from Nat.le_trans HB6.out.size GE7.out))
    have q2_ := Pst.A (AK.out.setCell (p := ⟨g7, 12, none⟩) (.inl rfl) (.slice A13 acc2.length c13))
    have q3_ := Pst.A (blk_set BK.out 12 (.slice A13 acc2.length c13))
    have q4_ := Pst.A (Kd.R_far (p := ⟨g7, 12, none⟩) HL.out (fun k_ h_ e_ => by have h1_ : k_ = g7 := e_; have h2_ := blk_lt BKF.out; omega) (.slice A13 acc2.length c13))
    go_roundg (P.length - 5 - (ii + 1))
    case measure => omega
    case rel => exact ⟨ii + 1, acc2, .slice A13 acc2.length c13, by first | rfl | go_num, by omega, by omega, AH, HAC2, q1_, q2_, q3_, q4_⟩
  obtain rfl : ii = P.length - 5 := by omega
  have hd : P.drop (5 + (P.length - 5)) = [] := by rw [show 5 + (P.length - 5) = P.length by omega, List.drop_length]
  have AH2 := AH.out
  rw [hd] at AH2
  obtain rfl : some acc = oL := by simpa [impl_ParseWorld.l0] using AH2
  clear hd AH AH2 hlt hii hgg
  have H1 := H.out
  obtain ⟨okw, AW, H2⟩ := Option.bind_eq_some_iff.1 H1
  replace AW := Pst.A AW
  clear H H1
  obtain ⟨A12, c12, e12⟩ := Kd.R_slice HL.out
  subst e12
  cases okw with
  | false =>
   obtain ⟨rfl, rfl, rfl, rfl, rfl, rfl, rfl, rfl, rfl, rfl, rfl, rfl, rfl, rfl, rfl, rfl, rfl⟩ := noWorldIs (by simpa using H2)
   clear H2
   go_wp2_with (first
    | ((with_reducible refine gate_ (.load 36 (.tmp 7)) rfl ?_); (try (refine gate_guard (by rfl) ?_; dsimp only)); refine wpList_load_row rfl 36 (.tmp 7) rfl g7 rfl 36 _ _ _ (Pst.qb BK.out) Tryz.underlying36 rfl (by kernel_rfl) ?_)
    | (go_at_call 16; refine (impl_WorldOk.calls k s1 s2 s3 A3 c3 s4 A4 c4 s5 s6 s7 A7 c7 s8 s9 s10 s11 s12 A12 c12 acc wa st co _ _ (Kd.R_reads' (Kd.R_kept (Kd.R_types HO3.out BKF.out (by decide)) (by exact AK.out) (fun _ hk => hk.2))).2.2 (Kd.R_reads' (Kd.R_kept (Kd.R_types HO3.out BKF.out (by decide)) (by exact AK.out) (fun _ hk => hk.2))).2.1 (Kd.R_reads' (Kd.R_kept (Kd.R_types HO4.out BKF.out (by decide)) (by exact AK.out) (fun _ hk => hk.2))).2.2 (Kd.R_reads' (Kd.R_kept (Kd.R_types HO4.out BKF.out (by decide)) (by exact AK.out) (fun _ hk => hk.2))).2.1 (Kd.R_reads' (Kd.R_kept (Kd.R_types HO7.out BKF.out (by decide)) (by exact AK.out) (fun _ hk => hk.2))).2.2 (Kd.R_reads' (Kd.R_kept (Kd.R_types HO7.out BKF.out (by decide)) (by exact AK.out) (fun _ hk => hk.2))).2.1 (Pst.qc (Kd.R_reads' HL.out).2.2) (Kd.R_reads' HL.out).2.1 AW.out).mono ?_; rintro e w12 ⟨rfl, hb⟩; have m0_ := Pst.A (below_step Pst.bel hb); have m1_ := Pst.A ((AK.out).below hb); have m2_ := Pst.A (blk_below BK.out hb); have m3_ := Pst.A (Kd.R_below HL.out hb); clear HB AK BK HL; have HB := m0_; have AK := m1_; have BK := m2_; have HL := m3_; clear m0_ m1_ m2_ m3_ hb)
    | ((with_reducible refine gate_ (.store 36 (.tmp 4) (.tmp 66)) rfl ?_); refine storeAll rfl 36 (.tmp 4) (.tmp 66) rfl g4 #[.int .i64 0, .int .i64 0, .int .i64 0, .slice none 0 0, .slice none 0 0, .int .i64 0, .int .i64 0, .slice none 0 0, .int .i64 0, .int .i64 0, .int .i64 0, .int .i64 0, .slice none 0 0, .int .i64 0, .int .i64 0, .int .i64 0] rfl rfl 36 #[.int .i64 0, .int .i64 0, .int .i64 0, .slice none 0 0, .slice none 0 0, .int .i64 0, .int .i64 0, .slice none 0 0, .int .i64 0, .int .i64 0, .int .i64 0, .int .i64 0, .slice none 0 0, .int .i64 0, .int .i64 0, .int .i64 0] ?hb (by kernel_rfl) rfl (by simp [Value.oneCell']) ?_; (case hb => exact (blk_kept (blk_below BK4.out HBr.out) AK.out NE4.out)); intro ws hbs hgs; have n_ := Pst.A (pw_below_grown Pst.bel (some g4) (below_size Pst.bel) hgs (fun k_ hk_ => by cases hk_; exact GEg4.out)); clear HB; have HB := n_; clear n_; have BKz := Pst.A hbs; clear hbs hgs))
   refine bodyPost_ret (results_ct rfl _ _ g4 36 #[.int .i64 0, .int .i64 0, .int .i64 0, .slice none 0 0, .slice none 0 0, .int .i64 0, .int .i64 0, .slice none 0 0, .int .i64 0, .int .i64 0, .int .i64 0, .int .i64 0, .slice none 0 0, .int .i64 0, .int .i64 0, .int .i64 0] (0, 0) _ rfl BKz.out Tryz.underlying36 rfl (by kernel_rfl)) rfl ?_
   exact ⟨_, _, _, _, rfl, Kd.R_nil _ _ _ _ _, Kd.R_nil _ _ _ _ _, Kd.R_nil _ _ _ _ _, Kd.R_nil _ _ _ _ _, Pst.bel⟩
  | true =>
   obtain ⟨t, AT, H3⟩ := Option.bind_eq_some_iff.1 H2
   replace AT := Pst.A AT
   clear H2
   by_cases ht : t.toList = a0.toList
   ·have hmb : (t.toList != a0.toList) = false := by simpa using ht
    have hmb2 : (t.toList == a0.toList) = true := by simpa using hmb
    have hmb3 : (!t.toList == a0.toList) = false := by rw [hmb2]; rfl
    rw [if_pos ht] at H3
    simp only [Option.some.injEq, Prod.mk.injEq] at H3
    obtain ⟨rfl, rfl, rfl, rfl, rfl, rfl, rfl, rfl, rfl, rfl, rfl, rfl, rfl, rfl, rfl, rfl, rfl⟩ := H3
    clear ht
    go_wp2_with (first
     | ((with_reducible refine gate_ (.load 36 (.tmp 7)) rfl ?_); (try (refine gate_guard (by rfl) ?_; dsimp only)); refine wpList_load_row rfl 36 (.tmp 7) rfl g7 rfl 36 _ _ _ (Pst.qb BK.out) Tryz.underlying36 rfl (by kernel_rfl) ?_)
     | (go_at_call 16; refine (impl_WorldOk.calls k s1 s2 s3 A3 c3 s4 A4 c4 s5 s6 s7 A7 c7 s8 s9 s10 s11 s12 A12 c12 acc wa st co _ _ (Kd.R_reads' (Kd.R_kept (Kd.R_types HO3.out BKF.out (by decide)) (by exact AK.out) (fun _ hk => hk.2))).2.2 (Kd.R_reads' (Kd.R_kept (Kd.R_types HO3.out BKF.out (by decide)) (by exact AK.out) (fun _ hk => hk.2))).2.1 (Kd.R_reads' (Kd.R_kept (Kd.R_types HO4.out BKF.out (by decide)) (by exact AK.out) (fun _ hk => hk.2))).2.2 (Kd.R_reads' (Kd.R_kept (Kd.R_types HO4.out BKF.out (by decide)) (by exact AK.out) (fun _ hk => hk.2))).2.1 (Kd.R_reads' (Kd.R_kept (Kd.R_types HO7.out BKF.out (by decide)) (by exact AK.out) (fun _ hk => hk.2))).2.2 (Kd.R_reads' (Kd.R_kept (Kd.R_types HO7.out BKF.out (by decide)) (by exact AK.out) (fun _ hk => hk.2))).2.1 (Pst.qc (Kd.R_reads' HL.out).2.2) (Kd.R_reads' HL.out).2.1 AW.out).mono ?_; rintro e w12 ⟨rfl, hb⟩; have m0_ := Pst.A (below_step Pst.bel hb); have m1_ := Pst.A ((AK.out).below hb); have m2_ := Pst.A (blk_below BK.out hb); have m3_ := Pst.A (Kd.R_below HL.out hb); clear HB AK BK HL; have HB := m0_; have AK := m1_; have BK := m2_; have HL := m3_; clear m0_ m1_ m2_ m3_ hb)
     | (go_at_call 6; refine (impl_WorldText.calls k s1 s2 s3 A3 c3 s4 A4 c4 s5 s6 s7 A7 c7 s8 s9 s10 s11 s12 A12 c12 acc wa st co t _ (Kd.R_reads' (Kd.R_kept (Kd.R_types HO3.out BKF.out (by decide)) (by exact AK.out) (fun _ hk => hk.2))).2.2 (Kd.R_reads' (Kd.R_kept (Kd.R_types HO3.out BKF.out (by decide)) (by exact AK.out) (fun _ hk => hk.2))).2.1 (Kd.R_reads' (Kd.R_kept (Kd.R_types HO4.out BKF.out (by decide)) (by exact AK.out) (fun _ hk => hk.2))).2.2 (Kd.R_reads' (Kd.R_kept (Kd.R_types HO4.out BKF.out (by decide)) (by exact AK.out) (fun _ hk => hk.2))).2.1 (Kd.R_reads' (Kd.R_kept (Kd.R_types HO7.out BKF.out (by decide)) (by exact AK.out) (fun _ hk => hk.2))).2.2 (Kd.R_reads' (Kd.R_kept (Kd.R_types HO7.out BKF.out (by decide)) (by exact AK.out) (fun _ hk => hk.2))).2.1 (Pst.qc (Kd.R_reads' HL.out).2.2) (Kd.R_reads' HL.out).2.1 AT.out (HT.out.on Pst.bel)).mono ?_; rintro e w13 ⟨rfl, hb⟩; have m0_ := Pst.A (below_step Pst.bel hb); have m1_ := Pst.A ((AK.out).below hb); have m2_ := Pst.A (blk_below BK.out hb); have m3_ := Pst.A (Kd.R_below HL.out hb); clear HB AK BK HL; have HB := m0_; have AK := m1_; have BK := m2_; have HL := m3_; clear m0_ m1_ m2_ m3_ hb)
     | ((with_reducible refine gate_ (.store 36 (.tmp 4) (.tmp 67)) rfl ?_); refine storeAll rfl 36 (.tmp 4) (.tmp 67) rfl g4 #[.int .i64 s1, .int .i64 s2, .int .i64 s3, .slice A3 s4.length c3, .slice A4 s5.length c4, .int .i64 s6, .int .i64 s7, .slice A7 s8.length c7, .int .i64 s9, .int .i64 s10, .int .i64 s11, .int .i64 s12, .slice A12 acc.length c12, .int .i64 wa, .int .i64 st, .int .i64 co] rfl rfl 36 #[.int .i64 0, .int .i64 0, .int .i64 0, .slice none 0 0, .slice none 0 0, .int .i64 0, .int .i64 0, .slice none 0 0, .int .i64 0, .int .i64 0, .int .i64 0, .int .i64 0, .slice none 0 0, .int .i64 0, .int .i64 0, .int .i64 0] ?hb (by kernel_rfl) rfl (by simp [Value.oneCell']) ?_; (case hb => exact (blk_kept (blk_below BK4.out HBr.out) AK.out NE4.out)); intro ws hbs hgs; have n_ := Pst.A (pw_below_grown Pst.bel (some g4) (below_size Pst.bel) hgs (fun k_ hk_ => by cases hk_; exact GEg4.out)); clear HB; have HB := n_; clear n_; have BKz := Pst.A hbs; have KS := Pst.A (show Kept _ ws (fun k => k = g4) from ⟨hgs.size, fun i hi hn => hgs.block i hi (fun he => hn (Option.some.inj he))⟩); clear hbs hgs))
    refine bodyPost_ret (results_ct rfl _ _ g4 36 #[.int .i64 s1, .int .i64 s2, .int .i64 s3, .slice A3 s4.length c3, .slice A4 s5.length c4, .int .i64 s6, .int .i64 s7, .slice A7 s8.length c7, .int .i64 s9, .int .i64 s10, .int .i64 s11, .int .i64 s12, .slice A12 acc.length c12, .int .i64 wa, .int .i64 st, .int .i64 co] (0, 0) _ rfl BKz.out Tryz.underlying36 rfl (by kernel_rfl)) rfl ?_
    have KF := Pst.A (show Kept w7 ws (fun k_ => k_ = g7 ∨ k_ = g4) from (AK.out.mono (fun _ h_ => Or.inl h_)).then_ KS.out (fun _ h_ => Or.inl (Or.inr h_)))
    have b4_ := blk_below BK4.out HBr.out
    refine ⟨_, _, _, _, rfl, ?_, ?_, ?_, ?_, Pst.bel⟩
    ·exact Kd.R_lower (Kd.R_mono (Kd.R_kept (Kd.R_types (Kd.R_types HO3.out BKF.out (by decide)) b4_ (by decide)) KF.out (fun _ hk he => he.elim hk.1.2 hk.2)) (fun _ hk => hk.1.1)) HB6.out.size
    ·exact Kd.R_lower (Kd.R_mono (Kd.R_kept (Kd.R_types (Kd.R_types HO4.out BKF.out (by decide)) b4_ (by decide)) KF.out (fun _ hk he => he.elim hk.1.2 hk.2)) (fun _ hk => hk.1.1)) HB6.out.size
    ·exact Kd.R_lower (Kd.R_mono (Kd.R_kept (Kd.R_types (Kd.R_types HO7.out BKF.out (by decide)) b4_ (by decide)) KF.out (fun _ hk he => he.elim hk.1.2 hk.2)) (fun _ hk => hk.1.1)) HB6.out.size
    exact Kd.R_mono (Kd.R_kept HL.out KS.out (fun k_ hk he => by have h1_ := blk_lt b4_; omega)) (fun _ _ => trivial)
   have hmb : (t.toList != a0.toList) = true := by simpa using ht
   have hmb2 : (t.toList == a0.toList) = false := by simpa using hmb
   have hmb3 : (!t.toList == a0.toList) = true := by rw [hmb2]; rfl
   rw [if_neg ht] at H3
   obtain ⟨rfl, rfl, rfl, rfl, rfl, rfl, rfl, rfl, rfl, rfl, rfl, rfl, rfl, rfl, rfl, rfl, rfl⟩ := noWorldIs H3
   clear H3 ht
   go_wp2_with (first
    | ((with_reducible refine gate_ (.load 36 (.tmp 7)) rfl ?_); (try (refine gate_guard (by rfl) ?_; dsimp only)); refine wpList_load_row rfl 36 (.tmp 7) rfl g7 rfl 36 _ _ _ (Pst.qb BK.out) Tryz.underlying36 rfl (by kernel_rfl) ?_)
    | (go_at_call 16; refine (impl_WorldOk.calls k s1 s2 s3 A3 c3 s4 A4 c4 s5 s6 s7 A7 c7 s8 s9 s10 s11 s12 A12 c12 acc wa st co _ _ (Kd.R_reads' (Kd.R_kept (Kd.R_types HO3.out BKF.out (by decide)) (by exact AK.out) (fun _ hk => hk.2))).2.2 (Kd.R_reads' (Kd.R_kept (Kd.R_types HO3.out BKF.out (by decide)) (by exact AK.out) (fun _ hk => hk.2))).2.1 (Kd.R_reads' (Kd.R_kept (Kd.R_types HO4.out BKF.out (by decide)) (by exact AK.out) (fun _ hk => hk.2))).2.2 (Kd.R_reads' (Kd.R_kept (Kd.R_types HO4.out BKF.out (by decide)) (by exact AK.out) (fun _ hk => hk.2))).2.1 (Kd.R_reads' (Kd.R_kept (Kd.R_types HO7.out BKF.out (by decide)) (by exact AK.out) (fun _ hk => hk.2))).2.2 (Kd.R_reads' (Kd.R_kept (Kd.R_types HO7.out BKF.out (by decide)) (by exact AK.out) (fun _ hk => hk.2))).2.1 (Pst.qc (Kd.R_reads' HL.out).2.2) (Kd.R_reads' HL.out).2.1 AW.out).mono ?_; rintro e w12 ⟨rfl, hb⟩; have m0_ := Pst.A (below_step Pst.bel hb); have m1_ := Pst.A ((AK.out).below hb); have m2_ := Pst.A (blk_below BK.out hb); have m3_ := Pst.A (Kd.R_below HL.out hb); clear HB AK BK HL; have HB := m0_; have AK := m1_; have BK := m2_; have HL := m3_; clear m0_ m1_ m2_ m3_ hb)
    | (go_at_call 6; refine (impl_WorldText.calls k s1 s2 s3 A3 c3 s4 A4 c4 s5 s6 s7 A7 c7 s8 s9 s10 s11 s12 A12 c12 acc wa st co t _ (Kd.R_reads' (Kd.R_kept (Kd.R_types HO3.out BKF.out (by decide)) (by exact AK.out) (fun _ hk => hk.2))).2.2 (Kd.R_reads' (Kd.R_kept (Kd.R_types HO3.out BKF.out (by decide)) (by exact AK.out) (fun _ hk => hk.2))).2.1 (Kd.R_reads' (Kd.R_kept (Kd.R_types HO4.out BKF.out (by decide)) (by exact AK.out) (fun _ hk => hk.2))).2.2 (Kd.R_reads' (Kd.R_kept (Kd.R_types HO4.out BKF.out (by decide)) (by exact AK.out) (fun _ hk => hk.2))).2.1 (Kd.R_reads' (Kd.R_kept (Kd.R_types HO7.out BKF.out (by decide)) (by exact AK.out) (fun _ hk => hk.2))).2.2 (Kd.R_reads' (Kd.R_kept (Kd.R_types HO7.out BKF.out (by decide)) (by exact AK.out) (fun _ hk => hk.2))).2.1 (Pst.qc (Kd.R_reads' HL.out).2.2) (Kd.R_reads' HL.out).2.1 AT.out (HT.out.on Pst.bel)).mono ?_; rintro e w13 ⟨rfl, hb⟩; have m0_ := Pst.A (below_step Pst.bel hb); have m1_ := Pst.A ((AK.out).below hb); have m2_ := Pst.A (blk_below BK.out hb); have m3_ := Pst.A (Kd.R_below HL.out hb); clear HB AK BK HL; have HB := m0_; have AK := m1_; have BK := m2_; have HL := m3_; clear m0_ m1_ m2_ m3_ hb)
    | ((with_reducible refine gate_ (.store 36 (.tmp 4) (.tmp 66)) rfl ?_); refine storeAll rfl 36 (.tmp 4) (.tmp 66) rfl g4 #[.int .i64 0, .int .i64 0, .int .i64 0, .slice none 0 0, .slice none 0 0, .int .i64 0, .int .i64 0, .slice none 0 0, .int .i64 0, .int .i64 0, .int .i64 0, .int .i64 0, .slice none 0 0, .int .i64 0, .int .i64 0, .int .i64 0] rfl rfl 36 #[.int .i64 0, .int .i64 0, .int .i64 0, .slice none 0 0, .slice none 0 0, .int .i64 0, .int .i64 0, .slice none 0 0, .int .i64 0, .int .i64 0, .int .i64 0, .int .i64 0, .slice none 0 0, .int .i64 0, .int .i64 0, .int .i64 0] ?hb (by kernel_rfl) rfl (by simp [Value.oneCell']) ?_; (case hb => exact (blk_kept (blk_below BK4.out HBr.out) AK.out NE4.out)); intro ws hbs hgs; have n_ := Pst.A (pw_below_grown Pst.bel (some g4) (below_size Pst.bel) hgs (fun k_ hk_ => by cases hk_; exact GEg4.out)); clear HB; have HB := n_; clear n_; have BKz := Pst.A hbs; clear hbs hgs))
   refine bodyPost_ret (results_ct rfl _ _ g4 36 #[.int .i64 0, .int .i64 0, .int .i64 0, .slice none 0 0, .slice none 0 0, .int .i64 0, .int .i64 0, .slice none 0 0, .int .i64 0, .int .i64 0, .int .i64 0, .int .i64 0, .slice none 0 0, .int .i64 0, .int .i64 0, .int .i64 0] (0, 0) _ rfl BKz.out Tryz.underlying36 rfl (by kernel_rfl)) rfl ?_
   exact ⟨_, _, _, _, rfl, Kd.R_nil _ _ _ _ _, Kd.R_nil _ _ _ _ _, Kd.R_nil _ _ _ _ _, Kd.R_nil _ _ _ _ _, Pst.bel⟩
 rw [if_neg hP] at H
 obtain ⟨rfl, rfl, rfl, rfl, rfl, rfl, rfl, rfl, rfl, rfl, rfl, rfl, rfl, rfl, rfl, rfl, rfl⟩ := noWorldIs H
 clear H
 have hPb := decide_eq_false hP
 clear hP
 go_enter Tryz.func9, Tryz.ntmps9
 go_wp2_with (first
  | ((with_reducible refine gate_dst (N := 3) rfl ?_); refine Pst.bx 3 #[.int .i64 a1_0, .int .i64 a1_1, .int .i64 a1_2, .slice A1_3 l1_3.length c1_3, .slice A1_4 l1_4.length c1_4, .int .i64 a1_5, .int .i64 a1_6, .slice A1_7 l1_7.length c1_7, .int .i64 a1_8, .int .i64 a1_9, .int .i64 a1_10, .int .i64 a1_11] 33 ?_; intro g3 hg wg3 hbox hb; have n0_ := Pst.A (below_step Pst.bel hb); have n1_ := Pst.A hbox; have n2_ := Pst.A (Pst.gs hg : w.heap.size ≤ g3); clear HB; have HB := n0_; have BKg3 := n1_; have GEg3 := n2_; clear n0_ n1_ n2_ ; clear hb hbox hg)
  | ((with_reducible refine gate_dst (N := 4) rfl ?_); refine Pst.bx 4 #[.int .i64 0, .int .i64 0, .int .i64 0, .slice none 0 0, .slice none 0 0, .int .i64 0, .int .i64 0, .slice none 0 0, .int .i64 0, .int .i64 0, .int .i64 0, .int .i64 0, .slice none 0 0, .int .i64 0, .int .i64 0, .int .i64 0] 36 ?_; intro g4 hg wg4 hbox hb; have n0_ := Pst.A (below_step Pst.bel hb); have n1_ := Pst.A hbox; have n2_ := Pst.A (Pst.gs hg : w.heap.size ≤ g4); have m0_ := Pst.A (Pst.kb BKg3.out hb); clear HB; have HB := n0_; have BKg4 := n1_; have GEg4 := n2_; clear BKg3; have BKg3 := m0_; clear n0_ n1_ n2_ m0_; clear hb hbox hg)
  | (go_at_call 24; refine (strings_Split.calls a0 (⟨#[32]⟩ : ByteArray) P _ AP.out (HT.out.on Pst.bel)).mono ?_; rintro e w5 ⟨v6, rfl, hR6, hb⟩; have m3_ := Pst.A hR6; have m0_ := Pst.A (below_step Pst.bel hb); have m1_ := Pst.A (Pst.kb BKg3.out hb); have m2_ := Pst.A (Pst.kb BKg4.out hb); have m4_ := Pst.A hb.size; clear hR6 hb; clear HB BKg3 BKg4; have HB := m0_; have BKg3 := m1_; have BKg4 := m2_; have HR6 := m3_; clear m0_ m1_ m2_ m3_ m4_; obtain ⟨A6, c6, e6⟩ := Kd.R_slice HR6.out; subst e6)
  | (go_at_call 25; refine (impl_in.calls (P.length : Int) 6 25 _ _ (implIn625 P)).mono ?_; rintro e w6 ⟨rfl, ⟨nd, rfl⟩⟩)
  | ((with_reducible refine gate_ (.store 36 (.tmp 4) (.tmp 18)) rfl ?_); refine storeAll rfl 36 (.tmp 4) (.tmp 18) rfl g4 #[.int .i64 0, .int .i64 0, .int .i64 0, .slice none 0 0, .slice none 0 0, .int .i64 0, .int .i64 0, .slice none 0 0, .int .i64 0, .int .i64 0, .int .i64 0, .int .i64 0, .slice none 0 0, .int .i64 0, .int .i64 0, .int .i64 0] rfl rfl 36 #[.int .i64 0, .int .i64 0, .int .i64 0, .slice none 0 0, .slice none 0 0, .int .i64 0, .int .i64 0, .slice none 0 0, .int .i64 0, .int .i64 0, .int .i64 0, .int .i64 0, .slice none 0 0, .int .i64 0, .int .i64 0, .int .i64 0] ?hb (by kernel_rfl) rfl (by simp [Value.oneCell']) ?_; (case hb => exact Pst.qb BKg4.out); intro ws hbs hgs; have n_ := Pst.A (pw_below_grown Pst.bel (some g4) (below_size Pst.bel) hgs (fun k_ hk_ => by cases hk_; exact GEg4.out)); clear HB; have HB := n_; clear n_; clear BKg4; have BKg4 := Pst.A hbs; clear hbs hgs))
 refine bodyPost_ret (results_ct rfl _ _ g4 36 #[.int .i64 0, .int .i64 0, .int .i64 0, .slice none 0 0, .slice none 0 0, .int .i64 0, .int .i64 0, .slice none 0 0, .int .i64 0, .int .i64 0, .int .i64 0, .int .i64 0, .slice none 0 0, .int .i64 0, .int .i64 0, .int .i64 0] (0, 0) _ rfl BKg4.out Tryz.underlying36 rfl (by kernel_rfl)) rfl ?_
 exact ⟨_, _, _, _, rfl, Kd.R_nil _ _ _ _ _, Kd.R_nil _ _ _ _ _, Kd.R_nil _ _ _ _ _, Kd.R_nil _ _ _ _ _, Pst.bel⟩

/-! ### impl_LoadAt: function 13 -/
def impl_LoadAt.f (k : Nat) (a0_0 : Int) (a0_1 : Int) (a0_2 : Int) (l0_3 : List (S48)) (l0_4 : List (S101)) (a0_5 : Int) (a0_6 : Int) (l0_7 : List (S101)) (a0_8 : Int) (a0_9 : Int) (a0_10 : Int) (a0_11 : Int) (l0_12 : List Int) (a0_13 : Int) (a0_14 : Int) (a0_15 : Int) (a1 : Int) : Option (Int) := (impl_WorldOk.f k a0_0 a0_1 a0_2 l0_3 l0_4 a0_5 a0_6 l0_7 a0_8 a0_9 a0_10 a0_11 l0_12 a0_13 a0_14 a0_15).bind fun t516 => (if t516 = true then (if a1 < 0 then (some 0) else (if a0_14 = 0 then (none) else (if 0 ≤ (mn (wrap64 (Int.tdiv a1 a0_14)) (wrap64 ((l0_12.length : Int) - 1))) then (if (mn (wrap64 (Int.tdiv a1 a0_14)) (wrap64 ((l0_12.length : Int) - 1))) < (l0_12.length : Int) then (some (rd l0_12 (mn (wrap64 (Int.tdiv a1 a0_14)) (wrap64 ((l0_12.length : Int) - 1))))) else (none)) else (none)))) else (some 0))
theorem impl_LoadAt.mono : ∀ a0 a1 a2 a3 a4 a5 a6 a7 a8 a9 a10 a11 a12 a13 a14 a15 a16 k, LeO (impl_LoadAt.f k a0 a1 a2 a3 a4 a5 a6 a7 a8 a9 a10 a11 a12 a13 a14 a15 a16) (impl_LoadAt.f (k + 1) a0 a1 a2 a3 a4 a5 a6 a7 a8 a9 a10 a11 a12 a13 a14 a15 a16) := by
 intro a0 a1 a2 a3 a4 a5 a6 a7 a8 a9 a10 a11 a12 a13 a14 a15 a16 k
 unfold impl_LoadAt.f
 have m0 := @impl_WorldOk.mono
 exact Pst.mo
theorem impl_LoadAt.calls (k : Nat) (a0_0 : Int) (a0_1 : Int) (a0_2 : Int) (A0_3 : Option Addr) (c0_3 : Nat) (l0_3 : List (S48)) (A0_4 : Option Addr) (c0_4 : Nat) (l0_4 : List (S101)) (a0_5 : Int) (a0_6 : Int) (A0_7 : Option Addr) (c0_7 : Nat) (l0_7 : List (S101)) (a0_8 : Int) (a0_9 : Int) (a0_10 : Int) (a0_11 : Int) (A0_12 : Option Addr) (c0_12 : Nat) (l0_12 : List Int) (a0_13 : Int) (a0_14 : Int) (a0_15 : Int) (a1 : Int) (r : Int) (w : World) (hr0_3 : Kd.C k48 w A0_3 l0_3.length l0_3) (hc0_3 : l0_3.length ≤ c0_3) (hr0_4 : Kd.C k101 w A0_4 l0_4.length l0_4) (hc0_4 : l0_4.length ≤ c0_4) (hr0_7 : Kd.C k101 w A0_7 l0_7.length l0_7) (hc0_7 : l0_7.length ≤ c0_7) (hr0_12 : Kd.C (Kd.int .i64) w A0_12 l0_12.length l0_12) (hc0_12 : l0_12.length ≤ c0_12) (h : impl_LoadAt.f k a0_0 a0_1 a0_2 l0_3 l0_4 a0_5 a0_6 l0_7 a0_8 a0_9 a0_10 a0_11 l0_12 a0_13 a0_14 a0_15 a1 = some r) :
 Calls Tryz.prog 13 #[.agg #[.int .i64 a0_0, .int .i64 a0_1, .int .i64 a0_2, .slice A0_3 l0_3.length c0_3, .slice A0_4 l0_4.length c0_4, .int .i64 a0_5, .int .i64 a0_6, .slice A0_7 l0_7.length c0_7, .int .i64 a0_8, .int .i64 a0_9, .int .i64 a0_10, .int .i64 a0_11, .slice A0_12 l0_12.length c0_12, .int .i64 a0_13, .int .i64 a0_14, .int .i64 a0_15], .int .i64 a1] w fun e w' => e = .returned (.int .i64 r) ∧ Below w.heap.size w w' := by
 have hu36 := Tryz.underlying36
 have HR0_3 := Pst.A hr0_3
 have HC0_3 := Pst.A hc0_3
 clear hr0_3 hc0_3
 have HR0_4 := Pst.A hr0_4
 have HC0_4 := Pst.A hc0_4
 clear hr0_4 hc0_4
 have HR0_7 := Pst.A hr0_7
 have HC0_7 := Pst.A hc0_7
 clear hr0_7 hc0_7
 have HR0_12 := Pst.A hr0_12
 have HC0_12 := Pst.A hc0_12
 clear hr0_12 hc0_12
 have HB := Pst.A (Below.refl w.heap.size w)
 have H : ((impl_WorldOk.f k a0_0 a0_1 a0_2 l0_3 l0_4 a0_5 a0_6 l0_7 a0_8 a0_9 a0_10 a0_11 l0_12 a0_13 a0_14 a0_15).bind fun t516 => (if t516 = true then (if a1 < 0 then (some 0) else (if a0_14 = 0 then (none) else (if 0 ≤ (mn (wrap64 (Int.tdiv a1 a0_14)) (wrap64 ((l0_12.length : Int) - 1))) then (if (mn (wrap64 (Int.tdiv a1 a0_14)) (wrap64 ((l0_12.length : Int) - 1))) < (l0_12.length : Int) then (some (rd l0_12 (mn (wrap64 (Int.tdiv a1 a0_14)) (wrap64 ((l0_12.length : Int) - 1))))) else (none)) else (none)))) else (some 0))) = some r := h
 clear h
 obtain ⟨t516, A30, H⟩ := Pst.bd H
 have A3 := Pst.A A30
 clear A30
 by_cases c4 : t516 = true
 ·subst c4
  rw [if_pos rfl] at H
  by_cases c5 : a1 < 0
  ·rw [if_pos c5] at H
   have c5b0 : decide (a1 < 0) = true := decide_eq_true c5
   clear c5
   obtain rfl := Option.some.inj H
   go_enter Tryz.func13, Tryz.ntmps13
   go_wp2_with (first | ((with_reducible refine gate_dst (N := 2) rfl ?_); refine Pst.bx 2 #[.int .i64 a0_0, .int .i64 a0_1, .int .i64 a0_2, .slice A0_3 l0_3.length c0_3, .slice A0_4 l0_4.length c0_4, .int .i64 a0_5, .int .i64 a0_6, .slice A0_7 l0_7.length c0_7, .int .i64 a0_8, .int .i64 a0_9, .int .i64 a0_10, .int .i64 a0_11, .slice A0_12 l0_12.length c0_12, .int .i64 a0_13, .int .i64 a0_14, .int .i64 a0_15] 36 ?_; intro gb515 hg w6 hbox hb; have BK515 := Pst.A hbox; have GW515 := Pst.A (Pst.gs hg : w.heap.size ≤ gb515); have GE515 := Pst.A (Pst.gs hg : w.heap.size ≤ gb515); replace HB := Pst.A (below_step Pst.bel hb); clear hb hbox hg; obtain ⟨_,_,_,_,_,_,_,_,_,_,_,_,_,_,_,_⟩ := Pst.c16 BK515.out; obtain ⟨_,_,_,_,_,_,_,_,_,_,_,_,_,_,_,_⟩ := Pst.f16 BK515.out) | (go_at_call 16; (with_reducible refine (impl_WorldOk.calls k a0_0 a0_1 a0_2 _ _ l0_3 _ _ l0_4 a0_5 a0_6 _ _ l0_7 a0_8 a0_9 a0_10 a0_11 _ _ l0_12 a0_13 a0_14 a0_15 true _ ?side1 ?side2 ?side3 ?side4 ?side5 ?side6 ?side7 ?side8 A3.out).mono ?_); (case side1 => exact Pst.qc (Kd.C_below HR0_3.out HB.out)); (case side2 => exact HC0_3.out); (case side3 => exact Pst.qc (Kd.C_below HR0_4.out HB.out)); (case side4 => exact HC0_4.out); (case side5 => exact Pst.qc (Kd.C_below HR0_7.out HB.out)); (case side6 => exact HC0_7.out); (case side7 => exact Pst.qc (Kd.C_below HR0_12.out HB.out)); (case side8 => exact HC0_12.out); rintro e w8 ⟨rfl, hb⟩; replace BK515 := Pst.A (Pst.kb BK515.out hb); replace HB := Pst.A (below_step Pst.bes hb); (try clear hb); (try clear hb2); (try clear hk); (try clear hi)))
   repeat (go_quiet (first | ((with_reducible refine gate_dst (N := 2) rfl ?_); refine Pst.bx 2 #[.int .i64 a0_0, .int .i64 a0_1, .int .i64 a0_2, .slice A0_3 l0_3.length c0_3, .slice A0_4 l0_4.length c0_4, .int .i64 a0_5, .int .i64 a0_6, .slice A0_7 l0_7.length c0_7, .int .i64 a0_8, .int .i64 a0_9, .int .i64 a0_10, .int .i64 a0_11, .slice A0_12 l0_12.length c0_12, .int .i64 a0_13, .int .i64 a0_14, .int .i64 a0_15] 36 ?_; intro gb515 hg w6 hbox hb; have BK515 := Pst.A hbox; have GW515 := Pst.A (Pst.gs hg : w.heap.size ≤ gb515); have GE515 := Pst.A (Pst.gs hg : w.heap.size ≤ gb515); replace HB := Pst.A (below_step Pst.bel hb); clear hb hbox hg; obtain ⟨_,_,_,_,_,_,_,_,_,_,_,_,_,_,_,_⟩ := Pst.c16 BK515.out; obtain ⟨_,_,_,_,_,_,_,_,_,_,_,_,_,_,_,_⟩ := Pst.f16 BK515.out) | (go_at_call 16; (with_reducible refine (impl_WorldOk.calls k a0_0 a0_1 a0_2 _ _ l0_3 _ _ l0_4 a0_5 a0_6 _ _ l0_7 a0_8 a0_9 a0_10 a0_11 _ _ l0_12 a0_13 a0_14 a0_15 true _ ?side1 ?side2 ?side3 ?side4 ?side5 ?side6 ?side7 ?side8 A3.out).mono ?_); (case side1 => exact Pst.qc (Kd.C_below HR0_3.out HB.out)); (case side2 => exact HC0_3.out); (case side3 => exact Pst.qc (Kd.C_below HR0_4.out HB.out)); (case side4 => exact HC0_4.out); (case side5 => exact Pst.qc (Kd.C_below HR0_7.out HB.out)); (case side6 => exact HC0_7.out); (case side7 => exact Pst.qc (Kd.C_below HR0_12.out HB.out)); (case side8 => exact HC0_12.out); rintro e w8 ⟨rfl, hb⟩; replace BK515 := Pst.A (Pst.kb BK515.out hb); replace HB := Pst.A (below_step Pst.bes hb); (try clear hb); (try clear hb2); (try clear hk); (try clear hi))); try go_wp2_with (first | ((with_reducible refine gate_dst (N := 2) rfl ?_); refine Pst.bx 2 #[.int .i64 a0_0, .int .i64 a0_1, .int .i64 a0_2, .slice A0_3 l0_3.length c0_3, .slice A0_4 l0_4.length c0_4, .int .i64 a0_5, .int .i64 a0_6, .slice A0_7 l0_7.length c0_7, .int .i64 a0_8, .int .i64 a0_9, .int .i64 a0_10, .int .i64 a0_11, .slice A0_12 l0_12.length c0_12, .int .i64 a0_13, .int .i64 a0_14, .int .i64 a0_15] 36 ?_; intro gb515 hg w6 hbox hb; have BK515 := Pst.A hbox; have GW515 := Pst.A (Pst.gs hg : w.heap.size ≤ gb515); have GE515 := Pst.A (Pst.gs hg : w.heap.size ≤ gb515); replace HB := Pst.A (below_step Pst.bel hb); clear hb hbox hg; obtain ⟨_,_,_,_,_,_,_,_,_,_,_,_,_,_,_,_⟩ := Pst.c16 BK515.out; obtain ⟨_,_,_,_,_,_,_,_,_,_,_,_,_,_,_,_⟩ := Pst.f16 BK515.out) | (go_at_call 16; (with_reducible refine (impl_WorldOk.calls k a0_0 a0_1 a0_2 _ _ l0_3 _ _ l0_4 a0_5 a0_6 _ _ l0_7 a0_8 a0_9 a0_10 a0_11 _ _ l0_12 a0_13 a0_14 a0_15 true _ ?side1 ?side2 ?side3 ?side4 ?side5 ?side6 ?side7 ?side8 A3.out).mono ?_); (case side1 => exact Pst.qc (Kd.C_below HR0_3.out HB.out)); (case side2 => exact HC0_3.out); (case side3 => exact Pst.qc (Kd.C_below HR0_4.out HB.out)); (case side4 => exact HC0_4.out); (case side5 => exact Pst.qc (Kd.C_below HR0_7.out HB.out)); (case side6 => exact HC0_7.out); (case side7 => exact Pst.qc (Kd.C_below HR0_12.out HB.out)); (case side8 => exact HC0_12.out); rintro e w8 ⟨rfl, hb⟩; replace BK515 := Pst.A (Pst.kb BK515.out hb); replace HB := Pst.A (below_step Pst.bes hb); (try clear hb); (try clear hb2); (try clear hk); (try clear hi))))
   go_ret
   exact ⟨Pst.e1, Pst.bes⟩
  rw [if_neg c5] at H
  have c5b0 : decide (a1 < 0) = false := decide_eq_false c5
  clear c5
  by_cases c9 : a0_14 = 0
  ·rw [if_pos c9] at H
   exact absurd H (by simp)
  rw [if_neg c9] at H
  have c9b0 : (a0_14 == 0) = false := beq_eq_false_iff_ne.mpr c9
  have c9b1 : (a0_14 != 0) = true := bne_iff_ne.mpr c9
  obtain ⟨ji10, hji10⟩ : ∃ j_ : Int, (mn (wrap64 (Int.tdiv a1 a0_14)) (wrap64 ((l0_12.length : Int) - 1))) = j_ := ⟨_, rfl⟩
  replace H : (if 0 ≤ (ji10) then (if (ji10) < (l0_12.length : Int) then (some (rd l0_12 (ji10))) else (none)) else (none)) = some r := by first | (rw [hji10] at H; exact H) | (simp only [hji10] at H ⊢; exact H)
  (try rw [hji10] at A3)
  have hji10_ : (if (wrap64 ((l0_12.length : Int) - 1)) < (wrap64 (Int.tdiv a1 a0_14)) then (wrap64 ((l0_12.length : Int) - 1)) else (wrap64 (Int.tdiv a1 a0_14))) = ji10 := hji10
  by_cases c11 : 0 ≤ (ji10)
  ·rw [if_pos c11] at H
   have c11b0 : decide (0 ≤ (ji10)) = true := decide_eq_true c11
   clear c11
   by_cases c12 : (ji10) < (l0_12.length : Int)
   ·rw [if_pos c12] at H
    have c12b0 : decide ((ji10) < (l0_12.length : Int)) = true := decide_eq_true c12
    clear c12
    obtain rfl := Option.some.inj H
    go_enter Tryz.func13, Tryz.ntmps13
    go_wp2_with (first | ((with_reducible refine gate_dst (N := 2) rfl ?_); refine Pst.bx 2 #[.int .i64 a0_0, .int .i64 a0_1, .int .i64 a0_2, .slice A0_3 l0_3.length c0_3, .slice A0_4 l0_4.length c0_4, .int .i64 a0_5, .int .i64 a0_6, .slice A0_7 l0_7.length c0_7, .int .i64 a0_8, .int .i64 a0_9, .int .i64 a0_10, .int .i64 a0_11, .slice A0_12 l0_12.length c0_12, .int .i64 a0_13, .int .i64 a0_14, .int .i64 a0_15] 36 ?_; intro gb515 hg w13 hbox hb; have BK515 := Pst.A hbox; have GW515 := Pst.A (Pst.gs hg : w.heap.size ≤ gb515); have GE515 := Pst.A (Pst.gs hg : w.heap.size ≤ gb515); replace HB := Pst.A (below_step Pst.bel hb); clear hb hbox hg; obtain ⟨_,_,_,_,_,_,_,_,_,_,_,_,_,_,_,_⟩ := Pst.c16 BK515.out; obtain ⟨_,_,_,_,_,_,_,_,_,_,_,_,_,_,_,_⟩ := Pst.f16 BK515.out) | (go_at_call 16; (with_reducible refine (impl_WorldOk.calls k a0_0 a0_1 a0_2 _ _ l0_3 _ _ l0_4 a0_5 a0_6 _ _ l0_7 a0_8 a0_9 a0_10 a0_11 _ _ l0_12 a0_13 a0_14 a0_15 true _ ?side1 ?side2 ?side3 ?side4 ?side5 ?side6 ?side7 ?side8 A3.out).mono ?_); (case side1 => exact Pst.qc (Kd.C_below HR0_3.out HB.out)); (case side2 => exact HC0_3.out); (case side3 => exact Pst.qc (Kd.C_below HR0_4.out HB.out)); (case side4 => exact HC0_4.out); (case side5 => exact Pst.qc (Kd.C_below HR0_7.out HB.out)); (case side6 => exact HC0_7.out); (case side7 => exact Pst.qc (Kd.C_below HR0_12.out HB.out)); (case side8 => exact HC0_12.out); rintro e w15 ⟨rfl, hb⟩; replace BK515 := Pst.A (Pst.kb BK515.out hb); replace HB := Pst.A (below_step Pst.bes hb); (try clear hb); (try clear hb2); (try clear hk); (try clear hi); obtain ⟨_,_,_,_,_,_,_,_,_,_,_,_,_,_,_,_⟩ := Pst.c16 BK515.out; obtain ⟨_,_,_,_,_,_,_,_,_,_,_,_,_,_,_,_⟩ := Pst.f16 BK515.out; have p517 : 0 ≤ ((ji10) : Int) := Pst.da; have q517 : (ji10) < (l0_12.length : Int) := Pst.da; obtain ⟨ad517, e517, hx517_0⟩ := Kd.at_int HR0_12.out (ji10) p517 q517; cases e517; replace hx517_0 := (HB.out.cell (World.block_lt_of_cell? w _ hx517_0)).trans hx517_0; replace p517 := eq_true p517; replace q517 := eq_true q517))
    repeat (go_quiet (first | ((with_reducible refine gate_dst (N := 2) rfl ?_); refine Pst.bx 2 #[.int .i64 a0_0, .int .i64 a0_1, .int .i64 a0_2, .slice A0_3 l0_3.length c0_3, .slice A0_4 l0_4.length c0_4, .int .i64 a0_5, .int .i64 a0_6, .slice A0_7 l0_7.length c0_7, .int .i64 a0_8, .int .i64 a0_9, .int .i64 a0_10, .int .i64 a0_11, .slice A0_12 l0_12.length c0_12, .int .i64 a0_13, .int .i64 a0_14, .int .i64 a0_15] 36 ?_; intro gb515 hg w13 hbox hb; have BK515 := Pst.A hbox; have GW515 := Pst.A (Pst.gs hg : w.heap.size ≤ gb515); have GE515 := Pst.A (Pst.gs hg : w.heap.size ≤ gb515); replace HB := Pst.A (below_step Pst.bel hb); clear hb hbox hg; obtain ⟨_,_,_,_,_,_,_,_,_,_,_,_,_,_,_,_⟩ := Pst.c16 BK515.out; obtain ⟨_,_,_,_,_,_,_,_,_,_,_,_,_,_,_,_⟩ := Pst.f16 BK515.out) | (go_at_call 16; (with_reducible refine (impl_WorldOk.calls k a0_0 a0_1 a0_2 _ _ l0_3 _ _ l0_4 a0_5 a0_6 _ _ l0_7 a0_8 a0_9 a0_10 a0_11 _ _ l0_12 a0_13 a0_14 a0_15 true _ ?side1 ?side2 ?side3 ?side4 ?side5 ?side6 ?side7 ?side8 A3.out).mono ?_); (case side1 => exact Pst.qc (Kd.C_below HR0_3.out HB.out)); (case side2 => exact HC0_3.out); (case side3 => exact Pst.qc (Kd.C_below HR0_4.out HB.out)); (case side4 => exact HC0_4.out); (case side5 => exact Pst.qc (Kd.C_below HR0_7.out HB.out)); (case side6 => exact HC0_7.out); (case side7 => exact Pst.qc (Kd.C_below HR0_12.out HB.out)); (case side8 => exact HC0_12.out); rintro e w15 ⟨rfl, hb⟩; replace BK515 := Pst.A (Pst.kb BK515.out hb); replace HB := Pst.A (below_step Pst.bes hb); (try clear hb); (try clear hb2); (try clear hk); (try clear hi); obtain ⟨_,_,_,_,_,_,_,_,_,_,_,_,_,_,_,_⟩ := Pst.c16 BK515.out; obtain ⟨_,_,_,_,_,_,_,_,_,_,_,_,_,_,_,_⟩ := Pst.f16 BK515.out; have p517 : 0 ≤ ((ji10) : Int) := Pst.da; have q517 : (ji10) < (l0_12.length : Int) := Pst.da; obtain ⟨ad517, e517, hx517_0⟩ := Kd.at_int HR0_12.out (ji10) p517 q517; cases e517; replace hx517_0 := (HB.out.cell (World.block_lt_of_cell? w _ hx517_0)).trans hx517_0; replace p517 := eq_true p517; replace q517 := eq_true q517)); try go_wp2_with (first | ((with_reducible refine gate_dst (N := 2) rfl ?_); refine Pst.bx 2 #[.int .i64 a0_0, .int .i64 a0_1, .int .i64 a0_2, .slice A0_3 l0_3.length c0_3, .slice A0_4 l0_4.length c0_4, .int .i64 a0_5, .int .i64 a0_6, .slice A0_7 l0_7.length c0_7, .int .i64 a0_8, .int .i64 a0_9, .int .i64 a0_10, .int .i64 a0_11, .slice A0_12 l0_12.length c0_12, .int .i64 a0_13, .int .i64 a0_14, .int .i64 a0_15] 36 ?_; intro gb515 hg w13 hbox hb; have BK515 := Pst.A hbox; have GW515 := Pst.A (Pst.gs hg : w.heap.size ≤ gb515); have GE515 := Pst.A (Pst.gs hg : w.heap.size ≤ gb515); replace HB := Pst.A (below_step Pst.bel hb); clear hb hbox hg; obtain ⟨_,_,_,_,_,_,_,_,_,_,_,_,_,_,_,_⟩ := Pst.c16 BK515.out; obtain ⟨_,_,_,_,_,_,_,_,_,_,_,_,_,_,_,_⟩ := Pst.f16 BK515.out) | (go_at_call 16; (with_reducible refine (impl_WorldOk.calls k a0_0 a0_1 a0_2 _ _ l0_3 _ _ l0_4 a0_5 a0_6 _ _ l0_7 a0_8 a0_9 a0_10 a0_11 _ _ l0_12 a0_13 a0_14 a0_15 true _ ?side1 ?side2 ?side3 ?side4 ?side5 ?side6 ?side7 ?side8 A3.out).mono ?_); (case side1 => exact Pst.qc (Kd.C_below HR0_3.out HB.out)); (case side2 => exact HC0_3.out); (case side3 => exact Pst.qc (Kd.C_below HR0_4.out HB.out)); (case side4 => exact HC0_4.out); (case side5 => exact Pst.qc (Kd.C_below HR0_7.out HB.out)); (case side6 => exact HC0_7.out); (case side7 => exact Pst.qc (Kd.C_below HR0_12.out HB.out)); (case side8 => exact HC0_12.out); rintro e w15 ⟨rfl, hb⟩; replace BK515 := Pst.A (Pst.kb BK515.out hb); replace HB := Pst.A (below_step Pst.bes hb); (try clear hb); (try clear hb2); (try clear hk); (try clear hi); obtain ⟨_,_,_,_,_,_,_,_,_,_,_,_,_,_,_,_⟩ := Pst.c16 BK515.out; obtain ⟨_,_,_,_,_,_,_,_,_,_,_,_,_,_,_,_⟩ := Pst.f16 BK515.out; have p517 : 0 ≤ ((ji10) : Int) := Pst.da; have q517 : (ji10) < (l0_12.length : Int) := Pst.da; obtain ⟨ad517, e517, hx517_0⟩ := Kd.at_int HR0_12.out (ji10) p517 q517; cases e517; replace hx517_0 := (HB.out.cell (World.block_lt_of_cell? w _ hx517_0)).trans hx517_0; replace p517 := eq_true p517; replace q517 := eq_true q517)))
    go_ret
    exact ⟨by first | rfl | (simp [errW_none, errW_some] <;> rfl) | (simp only [← hji10]; first | rfl | (simp [errW_none, errW_some] <;> rfl)) | (simp [*, errW_none, errW_some] <;> rfl), Pst.bes⟩
   rw [if_neg c12] at H
   exact absurd H (by simp)
  rw [if_neg c11] at H
  exact absurd H (by simp)
 replace c4 := Bool.eq_false_iff.mpr c4
 subst c4
 rw [if_neg Pst.ft] at H
 obtain rfl := Option.some.inj H
 go_enter Tryz.func13, Tryz.ntmps13
 go_wp2_with (first | ((with_reducible refine gate_dst (N := 2) rfl ?_); refine Pst.bx 2 #[.int .i64 a0_0, .int .i64 a0_1, .int .i64 a0_2, .slice A0_3 l0_3.length c0_3, .slice A0_4 l0_4.length c0_4, .int .i64 a0_5, .int .i64 a0_6, .slice A0_7 l0_7.length c0_7, .int .i64 a0_8, .int .i64 a0_9, .int .i64 a0_10, .int .i64 a0_11, .slice A0_12 l0_12.length c0_12, .int .i64 a0_13, .int .i64 a0_14, .int .i64 a0_15] 36 ?_; intro gb515 hg w17 hbox hb; have BK515 := Pst.A hbox; have GW515 := Pst.A (Pst.gs hg : w.heap.size ≤ gb515); have GE515 := Pst.A (Pst.gs hg : w.heap.size ≤ gb515); replace HB := Pst.A (below_step Pst.bel hb); clear hb hbox hg; obtain ⟨_,_,_,_,_,_,_,_,_,_,_,_,_,_,_,_⟩ := Pst.c16 BK515.out; obtain ⟨_,_,_,_,_,_,_,_,_,_,_,_,_,_,_,_⟩ := Pst.f16 BK515.out) | (go_at_call 16; (with_reducible refine (impl_WorldOk.calls k a0_0 a0_1 a0_2 _ _ l0_3 _ _ l0_4 a0_5 a0_6 _ _ l0_7 a0_8 a0_9 a0_10 a0_11 _ _ l0_12 a0_13 a0_14 a0_15 false _ ?side1 ?side2 ?side3 ?side4 ?side5 ?side6 ?side7 ?side8 A3.out).mono ?_); (case side1 => exact Pst.qc (Kd.C_below HR0_3.out HB.out)); (case side2 => exact HC0_3.out); (case side3 => exact Pst.qc (Kd.C_below HR0_4.out HB.out)); (case side4 => exact HC0_4.out); (case side5 => exact Pst.qc (Kd.C_below HR0_7.out HB.out)); (case side6 => exact HC0_7.out); (case side7 => exact Pst.qc (Kd.C_below HR0_12.out HB.out)); (case side8 => exact HC0_12.out); rintro e w19 ⟨rfl, hb⟩; replace BK515 := Pst.A (Pst.kb BK515.out hb); replace HB := Pst.A (below_step Pst.bes hb); (try clear hb); (try clear hb2); (try clear hk); (try clear hi)))
 repeat (go_quiet (first | ((with_reducible refine gate_dst (N := 2) rfl ?_); refine Pst.bx 2 #[.int .i64 a0_0, .int .i64 a0_1, .int .i64 a0_2, .slice A0_3 l0_3.length c0_3, .slice A0_4 l0_4.length c0_4, .int .i64 a0_5, .int .i64 a0_6, .slice A0_7 l0_7.length c0_7, .int .i64 a0_8, .int .i64 a0_9, .int .i64 a0_10, .int .i64 a0_11, .slice A0_12 l0_12.length c0_12, .int .i64 a0_13, .int .i64 a0_14, .int .i64 a0_15] 36 ?_; intro gb515 hg w17 hbox hb; have BK515 := Pst.A hbox; have GW515 := Pst.A (Pst.gs hg : w.heap.size ≤ gb515); have GE515 := Pst.A (Pst.gs hg : w.heap.size ≤ gb515); replace HB := Pst.A (below_step Pst.bel hb); clear hb hbox hg; obtain ⟨_,_,_,_,_,_,_,_,_,_,_,_,_,_,_,_⟩ := Pst.c16 BK515.out; obtain ⟨_,_,_,_,_,_,_,_,_,_,_,_,_,_,_,_⟩ := Pst.f16 BK515.out) | (go_at_call 16; (with_reducible refine (impl_WorldOk.calls k a0_0 a0_1 a0_2 _ _ l0_3 _ _ l0_4 a0_5 a0_6 _ _ l0_7 a0_8 a0_9 a0_10 a0_11 _ _ l0_12 a0_13 a0_14 a0_15 false _ ?side1 ?side2 ?side3 ?side4 ?side5 ?side6 ?side7 ?side8 A3.out).mono ?_); (case side1 => exact Pst.qc (Kd.C_below HR0_3.out HB.out)); (case side2 => exact HC0_3.out); (case side3 => exact Pst.qc (Kd.C_below HR0_4.out HB.out)); (case side4 => exact HC0_4.out); (case side5 => exact Pst.qc (Kd.C_below HR0_7.out HB.out)); (case side6 => exact HC0_7.out); (case side7 => exact Pst.qc (Kd.C_below HR0_12.out HB.out)); (case side8 => exact HC0_12.out); rintro e w19 ⟨rfl, hb⟩; replace BK515 := Pst.A (Pst.kb BK515.out hb); replace HB := Pst.A (below_step Pst.bes hb); (try clear hb); (try clear hb2); (try clear hk); (try clear hi))); try go_wp2_with (first | ((with_reducible refine gate_dst (N := 2) rfl ?_); refine Pst.bx 2 #[.int .i64 a0_0, .int .i64 a0_1, .int .i64 a0_2, .slice A0_3 l0_3.length c0_3, .slice A0_4 l0_4.length c0_4, .int .i64 a0_5, .int .i64 a0_6, .slice A0_7 l0_7.length c0_7, .int .i64 a0_8, .int .i64 a0_9, .int .i64 a0_10, .int .i64 a0_11, .slice A0_12 l0_12.length c0_12, .int .i64 a0_13, .int .i64 a0_14, .int .i64 a0_15] 36 ?_; intro gb515 hg w17 hbox hb; have BK515 := Pst.A hbox; have GW515 := Pst.A (Pst.gs hg : w.heap.size ≤ gb515); have GE515 := Pst.A (Pst.gs hg : w.heap.size ≤ gb515); replace HB := Pst.A (below_step Pst.bel hb); clear hb hbox hg; obtain ⟨_,_,_,_,_,_,_,_,_,_,_,_,_,_,_,_⟩ := Pst.c16 BK515.out; obtain ⟨_,_,_,_,_,_,_,_,_,_,_,_,_,_,_,_⟩ := Pst.f16 BK515.out) | (go_at_call 16; (with_reducible refine (impl_WorldOk.calls k a0_0 a0_1 a0_2 _ _ l0_3 _ _ l0_4 a0_5 a0_6 _ _ l0_7 a0_8 a0_9 a0_10 a0_11 _ _ l0_12 a0_13 a0_14 a0_15 false _ ?side1 ?side2 ?side3 ?side4 ?side5 ?side6 ?side7 ?side8 A3.out).mono ?_); (case side1 => exact Pst.qc (Kd.C_below HR0_3.out HB.out)); (case side2 => exact HC0_3.out); (case side3 => exact Pst.qc (Kd.C_below HR0_4.out HB.out)); (case side4 => exact HC0_4.out); (case side5 => exact Pst.qc (Kd.C_below HR0_7.out HB.out)); (case side6 => exact HC0_7.out); (case side7 => exact Pst.qc (Kd.C_below HR0_12.out HB.out)); (case side8 => exact HC0_12.out); rintro e w19 ⟨rfl, hb⟩; replace BK515 := Pst.A (Pst.kb BK515.out hb); replace HB := Pst.A (below_step Pst.bes hb); (try clear hb); (try clear hb2); (try clear hk); (try clear hi))))
 go_ret
 exact ⟨Pst.e1, Pst.bes⟩

/-! ### impl_CeilDiv: function 30 -/
def impl_CeilDiv.f (a0 : Int) (a1 : Int) : Option (Int) := if a1 < 1 then (some 0) else (if a1 = 0 then (none) else (if (Int.tmod a0 a1) > 0 then (some (wrap64 ((wrap64 (Int.tdiv a0 a1)) + 1))) else (some (wrap64 (Int.tdiv a0 a1)))))
theorem impl_CeilDiv.calls (a0 : Int) (a1 : Int) (r : Int) (w : World) (h : impl_CeilDiv.f a0 a1 = some r) :
    Calls Tryz.prog 30 #[.int .i64 a0, .int .i64 a1] w fun e w' => e = .returned (.int .i64 r) ∧ Drawn0 w w' := by
 have H : (if a1 < 1 then (some 0) else (if a1 = 0 then (none) else (if (Int.tmod a0 a1) > 0 then (some (wrap64 ((wrap64 (Int.tdiv a0 a1)) + 1))) else (some (wrap64 (Int.tdiv a0 a1)))))) = some r := h
 clear h
 by_cases c3 : a1 < 1
 ·rw [if_pos c3] at H
  have c3b0 : decide (a1 < 1) = true := decide_eq_true c3
  clear c3
  obtain rfl := Option.some.inj H
  go_enter Tryz.func30, Tryz.ntmps30
  go_wp2
  go_ret
  exact ⟨Pst.e2, by repeat (first | exact Drawn0.refl _ | apply Drawn0.step)⟩
 ·rw [if_neg c3] at H
  have c3b0 : decide (a1 < 1) = false := decide_eq_false c3
  clear c3
  by_cases c4 : a1 = 0
  ·rw [if_pos c4] at H
   exact absurd H (by simp)
  ·rw [if_neg c4] at H
   have c4b0 : (a1 == 0) = false := beq_eq_false_iff_ne.mpr c4
   have c4b1 : (a1 != 0) = true := bne_iff_ne.mpr c4
   by_cases c5 : (Int.tmod a0 a1) > 0
   ·rw [if_pos c5] at H
    have c5b0 : decide (0 < (Int.tmod a0 a1)) = true := decide_eq_true c5
    clear c5
    obtain rfl := Option.some.inj H
    go_enter Tryz.func30, Tryz.ntmps30
    go_wp2
    go_ret
    exact ⟨Pst.e2, by repeat (first | exact Drawn0.refl _ | apply Drawn0.step)⟩
   ·rw [if_neg c5] at H
    have c5b0 : decide (0 < (Int.tmod a0 a1)) = false := decide_eq_false c5
    clear c5
    obtain rfl := Option.some.inj H
    go_enter Tryz.func30, Tryz.ntmps30
    go_wp2
    go_ret
    exact ⟨Pst.e2, by repeat (first | exact Drawn0.refl _ | apply Drawn0.step)⟩

/-! ### impl_IdealAt: function 10 -/
theorem impl_IdealAt.loadWhole {P : Program} {o : Oper} {a : Act} {w : World} (ty : TypeId) (x : Operand) (ho : o.op = .load ty x) (g : Nat) (hx : a.eval x = .pointer (some ⟨g, 0, none⟩)) (t : TypeId) (cs : Array Value) (d : TypeDesc)
 (hg : w.heap[g]? = some (.cells cs t (0, 0))) (hu : P.underlying ty = some d) (hd : (match d with | .struct _ | .array _ _ => true | _ => false) = true) (hi : (P.info? ty).map (·.size) = some cs.size) :
 (execOp a.eval o).run P w = .ok (.value (.agg cs)) w := by
 unfold execOp
 simp only [ho, hx, Instr.loadAt, Instr.sureAddr, Sem.run_bind, Sem.run_pure, Result.andThen_ok, run_loadVar_row w g t ty cs (0, 0) d hg hu hd hi]
def impl_IdealAt.f (k : Nat) (a0_0 : Int) (a0_1 : Int) (a0_2 : Int) (l0_3 : List (S48)) (l0_4 : List (S101)) (a0_5 : Int) (a0_6 : Int) (l0_7 : List (S101)) (a0_8 : Int) (a0_9 : Int) (a0_10 : Int) (a0_11 : Int) (l0_12 : List Int) (a0_13 : Int) (a0_14 : Int) (a0_15 : Int) (a1 : Int) : Option (Int) := (impl_WorldOk.f k a0_0 a0_1 a0_2 l0_3 l0_4 a0_5 a0_6 l0_7 a0_8 a0_9 a0_10 a0_11 l0_12 a0_13 a0_14 a0_15).bind fun t519 => (if t519 = true then ((impl_LoadAt.f k a0_0 a0_1 a0_2 l0_3 l0_4 a0_5 a0_6 l0_7 a0_8 a0_9 a0_10 a0_11 l0_12 a0_13 a0_14 a0_15 a1).bind fun t520 => (if 0 < (l0_3.length : Int) then ((impl_CeilDiv.f t520 ((rd_T48 l0_3 0).f1)).bind fun t522 => (some (mn (mn (mx t522 a0_10) a0_11) 12))) else (none))) else (some (-1)))
theorem impl_IdealAt.mono : ∀ a0 a1 a2 a3 a4 a5 a6 a7 a8 a9 a10 a11 a12 a13 a14 a15 a16 k, LeO (impl_IdealAt.f k a0 a1 a2 a3 a4 a5 a6 a7 a8 a9 a10 a11 a12 a13 a14 a15 a16) (impl_IdealAt.f (k + 1) a0 a1 a2 a3 a4 a5 a6 a7 a8 a9 a10 a11 a12 a13 a14 a15 a16) := by
 intro a0 a1 a2 a3 a4 a5 a6 a7 a8 a9 a10 a11 a12 a13 a14 a15 a16 k
 unfold impl_IdealAt.f
 have m0 := @impl_LoadAt.mono
 have m1 := @impl_WorldOk.mono
 exact Pst.mo
def impl_IdealAt.T3 : Bool × List (List Nat × List Nat) := (true, [([], []), ([], []), ([0, 1], [0, 1]), ([], []), ([3], [3]), ([4], [4]), ([5], [5]), ([6], [6]), ([7], [7]), ([2, 8, 2], [2, 8]), ([9, 9, 0, 1, 2, 3, 4, 5, 6, 7, 8, 9], [9])])
def impl_IdealAt.B3 : List Nat := [0, 0, 3, 0, 8, 24, 56, 120, 248, 511, 1023]
theorem impl_IdealAt.tab3 : rtab .any (opsOf Tryz.f10 3) = impl_IdealAt.T3 := by kernel_rfl
theorem impl_IdealAt.bits3 : waitsOk impl_IdealAt.T3.2 impl_IdealAt.B3 = true := by kernel_rfl
theorem impl_IdealAt.calls (k : Nat) (a0_0 : Int) (a0_1 : Int) (a0_2 : Int) (A0_3 : Option Addr) (c0_3 : Nat) (l0_3 : List (S48)) (A0_4 : Option Addr) (c0_4 : Nat) (l0_4 : List (S101)) (a0_5 : Int) (a0_6 : Int) (A0_7 : Option Addr) (c0_7 : Nat) (l0_7 : List (S101)) (a0_8 : Int) (a0_9 : Int) (a0_10 : Int) (a0_11 : Int) (A0_12 : Option Addr) (c0_12 : Nat) (l0_12 : List Int) (a0_13 : Int) (a0_14 : Int) (a0_15 : Int) (a1 : Int) (r : Int) (w : World) (hr0_3 : Kd.C k48 w A0_3 l0_3.length l0_3) (hc0_3 : l0_3.length ≤ c0_3) (hr0_4 : Kd.C k101 w A0_4 l0_4.length l0_4) (hc0_4 : l0_4.length ≤ c0_4) (hr0_7 : Kd.C k101 w A0_7 l0_7.length l0_7) (hc0_7 : l0_7.length ≤ c0_7) (hr0_12 : Kd.C (Kd.int .i64) w A0_12 l0_12.length l0_12) (hc0_12 : l0_12.length ≤ c0_12) (h : impl_IdealAt.f k a0_0 a0_1 a0_2 l0_3 l0_4 a0_5 a0_6 l0_7 a0_8 a0_9 a0_10 a0_11 l0_12 a0_13 a0_14 a0_15 a1 = some r) :
 Calls Tryz.prog 10 #[.agg #[.int .i64 a0_0, .int .i64 a0_1, .int .i64 a0_2, .slice A0_3 l0_3.length c0_3, .slice A0_4 l0_4.length c0_4, .int .i64 a0_5, .int .i64 a0_6, .slice A0_7 l0_7.length c0_7, .int .i64 a0_8, .int .i64 a0_9, .int .i64 a0_10, .int .i64 a0_11, .slice A0_12 l0_12.length c0_12, .int .i64 a0_13, .int .i64 a0_14, .int .i64 a0_15], .int .i64 a1] w fun e w' => e = .returned (.int .i64 r) ∧ Below w.heap.size w w' := by
 have hu36 := Tryz.underlying36
 have HR0_3 := Pst.A hr0_3
 have HC0_3 := Pst.A hc0_3
 clear hr0_3 hc0_3
 have HR0_4 := Pst.A hr0_4
 have HC0_4 := Pst.A hc0_4
 clear hr0_4 hc0_4
 have HR0_7 := Pst.A hr0_7
 have HC0_7 := Pst.A hc0_7
 clear hr0_7 hc0_7
 have HR0_12 := Pst.A hr0_12
 have HC0_12 := Pst.A hc0_12
 clear hr0_12 hc0_12
 have HB := Pst.A (Below.refl w.heap.size w)
 have H : ((impl_WorldOk.f k a0_0 a0_1 a0_2 l0_3 l0_4 a0_5 a0_6 l0_7 a0_8 a0_9 a0_10 a0_11 l0_12 a0_13 a0_14 a0_15).bind fun t519 => (if t519 = true then ((impl_LoadAt.f k a0_0 a0_1 a0_2 l0_3 l0_4 a0_5 a0_6 l0_7 a0_8 a0_9 a0_10 a0_11 l0_12 a0_13 a0_14 a0_15 a1).bind fun t520 => (if 0 < (l0_3.length : Int) then ((impl_CeilDiv.f t520 ((rd_T48 l0_3 0).f1)).bind fun t522 => (some (mn (mn (mx t522 a0_10) a0_11) 12))) else (none))) else (some (-1)))) = some r := h
 clear h
 obtain ⟨t519, A30, H⟩ := Pst.bd H
 have A3 := Pst.A A30
 clear A30
 by_cases c4 : t519 = true
 ·subst c4
  rw [if_pos rfl] at H
  obtain ⟨t520, A50, H⟩ := Pst.bd H
  have A5 := Pst.A A50
  clear A50
  by_cases c6 : 0 < (l0_3.length : Int)
  ·rw [if_pos c6] at H
   have c6b0 : decide (0 < (l0_3.length : Int)) = true := decide_eq_true c6
   have c6b1 : decide (0 < l0_3.length) = true := decide_eq_true (by omega)
   clear c6
   obtain ⟨t522, A70, H⟩ := Pst.bd H
   have A7 := Pst.A A70
   clear A70
   obtain ⟨ji8, hji8⟩ : ∃ j_ : Int, (mx t522 a0_10) = j_ := ⟨_, rfl⟩
   replace H : (some (mn (mn (ji8) a0_11) 12)) = some r := by first | (rw [hji8] at H; exact H) | (simp only [hji8] at H ⊢; exact H)
   (try rw [hji8] at A3)
   (try rw [hji8] at A5)
   (try rw [hji8] at A7)
   have hji8_ : (if t522 < a0_10 then a0_10 else t522) = ji8 := hji8
   obtain ⟨ji9, hji9⟩ : ∃ j_ : Int, (mn (ji8) a0_11) = j_ := ⟨_, rfl⟩
   replace H : (some (mn (ji9) 12)) = some r := by first | (rw [hji9] at H; exact H) | (simp only [hji9] at H ⊢; exact H)
   (try rw [hji9] at A3)
   (try rw [hji9] at A5)
   (try rw [hji9] at A7)
   have hji9_ : (if a0_11 < (ji8) then a0_11 else (ji8)) = ji9 := hji9
   obtain ⟨ji10, hji10⟩ : ∃ j_ : Int, (mn (ji9) 12) = j_ := ⟨_, rfl⟩
   replace H : (some ji10) = some r := by first | (rw [hji10] at H; exact H) | (simp only [hji10] at H ⊢; exact H)
   (try rw [hji10] at A3)
   (try rw [hji10] at A5)
   (try rw [hji10] at A7)
   have hji10_ : (if 12 < (ji9) then 12 else (ji9)) = ji10 := hji10
   obtain rfl := Option.some.inj H
   go_enter Tryz.func10, Tryz.ntmps10
   try go_wp2_with (first | ((with_reducible refine gate_ (.load 36 (.tmp 2)) rfl ?_); refine wpList_load_row rfl 36 (.tmp 2) rfl gb518 rfl 36 _ _ _ (show _ = some _ from by exact Pst.qb BK518.out) Tryz.underlying36 rfl (by kernel_rfl) ?_) | ((with_reducible refine gate_dst (N := 2) rfl ?_); refine Pst.bx 2 #[.int .i64 a0_0, .int .i64 a0_1, .int .i64 a0_2, .slice A0_3 l0_3.length c0_3, .slice A0_4 l0_4.length c0_4, .int .i64 a0_5, .int .i64 a0_6, .slice A0_7 l0_7.length c0_7, .int .i64 a0_8, .int .i64 a0_9, .int .i64 a0_10, .int .i64 a0_11, .slice A0_12 l0_12.length c0_12, .int .i64 a0_13, .int .i64 a0_14, .int .i64 a0_15] 36 ?_; intro gb518 hg w11 hbox hb; have BK518 := Pst.A hbox; have GW518 := Pst.A (Pst.gs hg : w.heap.size ≤ gb518); have GE518 := Pst.A (Pst.gs hg : w.heap.size ≤ gb518); replace HB := Pst.A (below_step Pst.bel hb); clear hb hbox hg; have hcz12_3 : w11.cell? ⟨gb518, 3, none⟩ = some (.slice A0_3 l0_3.length c0_3) := (blk_cell BK518.out 3).trans rfl; have hcz12_10 : w11.cell? ⟨gb518, 10, none⟩ = some (.int .i64 a0_10) := (blk_cell BK518.out 10).trans rfl; have hcz12_11 : w11.cell? ⟨gb518, 11, none⟩ = some (.int .i64 a0_11) := (blk_cell BK518.out 11).trans rfl) | ((with_reducible refine gate_callee (f := 16) rfl ?_); refine goesL_ (some 7) rfl rfl Tryz.func16 (by kernel_rfl) rfl #[.agg #[.int .i64 a0_0, .int .i64 a0_1, .int .i64 a0_2, .slice A0_3 l0_3.length c0_3, .slice A0_4 l0_4.length c0_4, .int .i64 a0_5, .int .i64 a0_6, .slice A0_7 l0_7.length c0_7, .int .i64 a0_8, .int .i64 a0_9, .int .i64 a0_10, .int .i64 a0_11, .slice A0_12 l0_12.length c0_12, .int .i64 a0_13, .int .i64 a0_14, .int .i64 a0_15]] rfl Pst.ga ?_; (with_reducible refine (impl_WorldOk.calls k a0_0 a0_1 a0_2 _ _ l0_3 _ _ l0_4 a0_5 a0_6 _ _ l0_7 a0_8 a0_9 a0_10 a0_11 _ _ l0_12 a0_13 a0_14 a0_15 true _ ?side1 ?side2 ?side3 ?side4 ?side5 ?side6 ?side7 ?side8 A3.out).mono ?_); (case side1 => exact Pst.qc (Kd.C_below HR0_3.out HB.out)); (case side2 => exact HC0_3.out); (case side3 => exact Pst.qc (Kd.C_below HR0_4.out HB.out)); (case side4 => exact HC0_4.out); (case side5 => exact Pst.qc (Kd.C_below HR0_7.out HB.out)); (case side6 => exact HC0_7.out); (case side7 => exact Pst.qc (Kd.C_below HR0_12.out HB.out)); (case side8 => exact HC0_12.out); rintro e w13 ⟨rfl, hb⟩; refine ⟨_, rfl, ?_⟩; replace BK518 := Pst.A (Pst.kb BK518.out hb); replace HB := Pst.A (below_step Pst.bes hb); (try clear hb); (try clear hb2); (try clear hk); (try clear hi)))
   replace BK518 := Pst.A (blk_drew BK518.out)
   replace HB := Pst.A (below_drew1 HB.out)
   have p521 : 0 ≤ (0 : Int) := (by omega)
   have q521 : 0 < (l0_3.length : Int) := Pst.da
   obtain ⟨ad521, e521, hx521_0, hx521_1, hx521_2⟩ := at_T48 HR0_3.out 0 p521 q521
   have hw521_2 := hx521_2
   (try rw [show ((0 : Int)).toNat = 0 from rfl] at hw521_2)
   (try rw [show 0 * 3 = 0 from rfl] at hw521_2)
   (try rw [Addr.add_zero'] at hw521_2)
   have hw521_1 := hx521_1
   (try rw [show ((0 : Int)).toNat = 0 from rfl] at hw521_1)
   (try rw [show 0 * 3 = 0 from rfl] at hw521_1)
   (try rw [Addr.add_zero'] at hw521_1)
   have hw521_0 := hx521_0
   (try rw [show ((0 : Int)).toNat = 0 from rfl] at hw521_0)
   (try rw [show 0 * 3 = 0 from rfl] at hw521_0)
   (try rw [Addr.add_zero'] at hw521_0)
   cases e521
   have qi521 : (0 < l0_3.length) = True := eq_true (by omega)
   (try rw [show ((0 : Int)).toNat = 0 from rfl] at hx521_0)
   (try rw [show 0 * 3 = 0 from rfl] at hx521_0)
   (try rw [Addr.add_zero'] at hx521_0)
   (try rw [show ((0 : Int)).toNat = 0 from rfl] at hx521_1)
   (try rw [show 0 * 3 = 0 from rfl] at hx521_1)
   (try rw [Addr.add_zero'] at hx521_1)
   (try rw [show ((0 : Int)).toNat = 0 from rfl] at hx521_2)
   (try rw [show 0 * 3 = 0 from rfl] at hx521_2)
   (try rw [Addr.add_zero'] at hx521_2)
   replace hx521_0 := (HB.out.cell (World.block_lt_of_cell? w _ hx521_0)).trans hx521_0
   replace hx521_1 := (HB.out.cell (World.block_lt_of_cell? w _ hx521_1)).trans hx521_1
   replace hx521_2 := (HB.out.cell (World.block_lt_of_cell? w _ hx521_2)).trans hx521_2
   replace p521 := eq_true p521
   replace q521 := eq_true q521
   refine start_ (n := 11) (S := fun w' => w'.heap[gb518]? = some (.cells #[.int .i64 a0_0, .int .i64 a0_1, .int .i64 a0_2, .slice (some ad521) l0_3.length c0_3, .slice A0_4 l0_4.length c0_4, .int .i64 a0_5, .int .i64 a0_6, .slice A0_7 l0_7.length c0_7, .int .i64 a0_8, .int .i64 a0_9, .int .i64 a0_10, .int .i64 a0_11, .slice A0_12 l0_12.length c0_12, .int .i64 a0_13, .int .i64 a0_14, .int .i64 a0_15] 36 (0, 0)) ∧ w'.cell? ⟨gb518, 3, none⟩ = some (.slice (some ad521) l0_3.length c0_3) ∧ w'.cell? ⟨gb518, 10, none⟩ = some (.int .i64 a0_10) ∧ w'.cell? ⟨gb518, 11, none⟩ = some (.int .i64 a0_11) ∧ w'.cell? ad521 = some (.string ((rd_T48 l0_3 0).f0)) ∧ w'.cell? ⟨ad521.block, ad521.off + 1, none⟩ = some (.int .i64 ((rd_T48 l0_3 0).f1)) ∧ w'.cell? ⟨ad521.block, ad521.off + 2, none⟩ = some (.int .i64 ((rd_T48 l0_3 0).f2))) (ds := []) #[false, false, false, false, false, false, false, false, false, false, false] (by kernel_rfl) rfl rfl ⟨(show _ = some _ from by exact Pst.qb BK518.out), (blk_cell BK518.out 3).trans rfl, (blk_cell BK518.out 10).trans rfl, (blk_cell BK518.out 11).trans rfl, ((HB.out.cell (World.block_lt_of_cell? w _ hw521_0)).trans hw521_0), ((HB.out.cell (World.block_lt_of_cell? w _ hw521_1)).trans hw521_1), ((HB.out.cell (World.block_lt_of_cell? w _ hw521_2)).trans hw521_2)⟩ (fun hHeld => ?_); refine with_tabW impl_IdealAt.tab3 impl_IdealAt.bits3 (fun HT_ HW_ => ?_)
   generalize w13.drew = w14 at BK518 HB hx521_0 hx521_1 hx521_2 hHeld ⊢
   refine pure_ (i := 1) (N := some 10) (v := ?_) (a' := ?_) #[false, true, false, false, false, false, false, false, false, false, false] rfl rfl (any_of HT_.out (by kernel_rfl)) (fun _ _ _ h => h) (Or.inl ⟨by rfl, ?_⟩) ?_ ?_
   rotate_left
   ·intro w'
    go_simp
    with_reducible rfl
   rotate_left
   ·simp only [Pst.all]
    rfl
   refine pure_ (i := 3) (N := some 12) (v := ?_) (a' := ?_) #[false, true, false, true, false, false, false, false, false, false, false] rfl rfl (any_of HT_.out (by kernel_rfl)) (fun _ _ _ h => h) (Or.inl ⟨by rfl, ?_⟩) ?_ ?_
   rotate_left
   ·intro w'
    go_simp
    with_reducible rfl
   rotate_left
   ·simp only [Pst.all]
    rfl
   refine pure_ (i := 4) (N := some 13) (v := ?_) (a' := ?_) #[false, true, false, true, true, false, false, false, false, false, false] rfl rfl (any_of HT_.out (by kernel_rfl)) (fun _ _ _ h => h) (Or.inl ⟨by rfl, ?_⟩) ?_ ?_
   rotate_left
   ·intro w'
    go_simp
    with_reducible rfl
   rotate_left
   ·simp only [Pst.all]
    rfl
   refine take_ (i := 0) (N := some 9) (v := ?_) (a' := ?_) #[true, true, false, true, true, false, false, false, false, false, false] rfl rfl (take_ofW HT_.out HW_.out (by kernel_rfl)) (fun _ _ _ h => h) (Or.inl ⟨by rfl, ?_⟩) hHeld ?_ ?_
   rotate_left
   ·rintro w' ⟨s0, s1, s2, s3, s4, s5, s6⟩
    first | (refine (impl_IdealAt.loadWhole 36 _ rfl _ rfl 36 _ _ s0 Tryz.underlying36 rfl (by kernel_rfl)).trans ?_; with_reducible rfl) | (go_simp; with_reducible rfl)
   rotate_left
   ·simp only [Pst.all]
    rfl
   refine take_ (i := 5) (N := some 14) (v := ?_) (a' := ?_) #[true, true, false, true, true, true, false, false, false, false, false] rfl rfl (take_ofW HT_.out HW_.out (by kernel_rfl)) (fun _ _ _ h => h) (Or.inl ⟨by rfl, ?_⟩) hHeld ?_ ?_
   rotate_left
   ·rintro w' ⟨s0, s1, s2, s3, s4, s5, s6⟩
    first | (refine (impl_IdealAt.loadWhole 36 _ rfl _ rfl 36 _ _ s0 Tryz.underlying36 rfl (by kernel_rfl)).trans ?_; with_reducible rfl) | (go_simp; with_reducible rfl)
   rotate_left
   ·simp only [Pst.all]
    rfl
   refine pure_ (i := 6) (N := some 15) (v := ?_) (a' := ?_) #[true, true, false, true, true, true, true, false, false, false, false] rfl rfl (any_of HT_.out (by kernel_rfl)) (fun _ _ _ h => h) (Or.inl ⟨by rfl, ?_⟩) ?_ ?_
   rotate_left
   ·intro w'
    go_simp
    with_reducible rfl
   rotate_left
   ·simp only [Pst.all]
    rfl
   refine pure_ (i := 7) (N := some 16) (v := ?_) (a' := ?_) #[true, true, false, true, true, true, true, true, false, false, false] rfl rfl (any_of HT_.out (by kernel_rfl)) (fun _ _ _ h => h) (Or.inl ⟨by rfl, ?_⟩) ?_ ?_
   rotate_left
   ·intro w'
    go_simp
    with_reducible rfl
   rotate_left
   ·simp only [Pst.all]
    rfl
   refine take_ (i := 8) (N := some 17) (v := ?_) (a' := ?_) #[true, true, false, true, true, true, true, true, true, false, false] rfl rfl (take_ofW HT_.out HW_.out (by kernel_rfl)) (fun _ _ _ h => h) (Or.inl ⟨by rfl, ?_⟩) hHeld ?_ ?_
   rotate_left
   ·rintro w' ⟨s0, s1, s2, s3, s4, s5, s6⟩
    first | (refine (impl_IdealAt.loadWhole 36 _ rfl _ rfl 36 _ _ s0 Tryz.underlying36 rfl (by kernel_rfl)).trans ?_; with_reducible rfl) | (go_simp; with_reducible rfl)
   rotate_left
   ·simp only [Pst.all]
    rfl
   refine one_ (i := 2) (N := some 11) #[true, true, true, true, true, true, true, true, true, false, false] rfl rfl (one_of HT_.out (by kernel_rfl)) (by decide) (fun K hK => ?_)
   refine goes_ Tryz.func13 (by kernel_rfl) rfl #[.agg #[.int .i64 a0_0, .int .i64 a0_1, .int .i64 a0_2, .slice (some ad521) l0_3.length c0_3, .slice A0_4 l0_4.length c0_4, .int .i64 a0_5, .int .i64 a0_6, .slice A0_7 l0_7.length c0_7, .int .i64 a0_8, .int .i64 a0_9, .int .i64 a0_10, .int .i64 a0_11, .slice A0_12 l0_12.length c0_12, .int .i64 a0_13, .int .i64 a0_14, .int .i64 a0_15], .int .i64 a1] (by rfl) rfl rfl Pst.ga ?_
   with_reducible refine (impl_LoadAt.calls k a0_0 a0_1 a0_2 _ _ l0_3 _ _ l0_4 a0_5 a0_6 _ _ l0_7 a0_8 a0_9 a0_10 a0_11 _ _ l0_12 a0_13 a0_14 a0_15 a1 t520 _ ?side1 ?side2 ?side3 ?side4 ?side5 ?side6 ?side7 ?side8 A5.out).mono ?_
   (case side1 => exact Pst.qc (Kd.C_below HR0_3.out HB.out))
   (case side2 => exact HC0_3.out)
   (case side3 => exact Pst.qc (Kd.C_below HR0_4.out HB.out))
   (case side4 => exact HC0_4.out)
   (case side5 => exact Pst.qc (Kd.C_below HR0_7.out HB.out))
   (case side6 => exact HC0_7.out)
   (case side7 => exact Pst.qc (Kd.C_below HR0_12.out HB.out))
   (case side8 => exact HC0_12.out)
   rintro e w15 ⟨rfl, hb⟩
   refine ⟨_, rfl, ?_⟩
   replace BK518 := Pst.A (Pst.kb BK518.out hb)
   replace HB := Pst.A (below_step Pst.bes hb)
   (try clear hb)
   (try clear hb2)
   (try clear hk)
   (try clear hi)
   refine hK.out _ _ ⟨(show _ = some _ from by exact Pst.qb BK518.out), (blk_cell BK518.out 3).trans rfl, (blk_cell BK518.out 10).trans rfl, (blk_cell BK518.out 11).trans rfl, ((HB.out.cell (World.block_lt_of_cell? w _ hw521_0)).trans hw521_0), ((HB.out.cell (World.block_lt_of_cell? w _ hw521_1)).trans hw521_1), ((HB.out.cell (World.block_lt_of_cell? w _ hw521_2)).trans hw521_2)⟩ (fun hHeld => ?_)
   clear hK K
   refine norm_ (a' := ?_) ?_ ?_
   rotate_left
   ·show Act.put _ (some 11) _ = _
    simp only [Pst.all]
    rfl
   refine one_ (i := 9) (N := some 18) #[true, true, true, true, true, true, true, true, true, true, false] rfl rfl (one_of HT_.out (by kernel_rfl)) (by decide) (fun K hK => ?_)
   refine goes_ Tryz.func30 (by kernel_rfl) rfl #[.int .i64 t520, .int .i64 ((rd_T48 l0_3 0).f1)] (by rfl) rfl rfl Pst.ga ?_
   with_reducible refine (impl_CeilDiv.calls t520 ((rd_T48 l0_3 0).f1) t522 _ A7.out).mono ?_
   rintro e w' ⟨rfl, ⟨nd, rfl⟩⟩
   refine ⟨_, rfl, ?_⟩
   refine hK.out _ _ ⟨(show _ = some _ from by exact Pst.qb BK518.out), (blk_cell BK518.out 3).trans rfl, (blk_cell BK518.out 10).trans rfl, (blk_cell BK518.out 11).trans rfl, ((HB.out.cell (World.block_lt_of_cell? w _ hw521_0)).trans hw521_0), ((HB.out.cell (World.block_lt_of_cell? w _ hw521_1)).trans hw521_1), ((HB.out.cell (World.block_lt_of_cell? w _ hw521_2)).trans hw521_2)⟩ (fun hHeld => ?_)
   clear hK K
   refine norm_ (a' := ?_) ?_ ?_
   rotate_left
   ·show Act.put _ (some 18) _ = _
    simp only [Pst.all]
    rfl
   refine pure_ (i := 10) (N := some 5) (v := ?_) (a' := ?_) #[true, true, true, true, true, true, true, true, true, true, true] rfl rfl (any_of HT_.out (by kernel_rfl)) (fun _ _ _ h => h) (Or.inl ⟨by rfl, ?_⟩) ?_ ?_
   rotate_left
   ·intro w'
    go_simp
    with_reducible rfl
   rotate_left
   ·simp only [Pst.all]
    rfl
   refine done_ (done_of HT_.out (by kernel_rfl)) ?_
   have hcz16_3 : w15.cell? ⟨gb518, 3, none⟩ = some (.slice (some ad521) l0_3.length c0_3) := (blk_cell BK518.out 3).trans rfl
   have hcz16_10 : w15.cell? ⟨gb518, 10, none⟩ = some (.int .i64 a0_10) := (blk_cell BK518.out 10).trans rfl
   have hcz16_11 : w15.cell? ⟨gb518, 11, none⟩ = some (.int .i64 a0_11) := (blk_cell BK518.out 11).trans rfl
   try go_wp2
   go_ret
   exact ⟨by first | rfl | (simp [errW_none, errW_some] <;> rfl) | (simp only [← hji8, ← hji9, ← hji10]; first | rfl | (simp [errW_none, errW_some] <;> rfl)) | (simp [*, errW_none, errW_some] <;> rfl), Pst.bes⟩
  rw [if_neg c6] at H
  exact absurd H (by simp)
 replace c4 := Bool.eq_false_iff.mpr c4
 subst c4
 rw [if_neg Pst.ft] at H
 obtain rfl := Option.some.inj H
 go_enter Tryz.func10, Tryz.ntmps10
 go_wp2_with (first | ((with_reducible refine gate_ (.load 36 (.tmp 2)) rfl ?_); refine wpList_load_row rfl 36 (.tmp 2) rfl gb518 rfl 36 _ _ _ (show _ = some _ from by exact Pst.qb BK518.out) Tryz.underlying36 rfl (by kernel_rfl) ?_) | ((with_reducible refine gate_dst (N := 2) rfl ?_); refine Pst.bx 2 #[.int .i64 a0_0, .int .i64 a0_1, .int .i64 a0_2, .slice A0_3 l0_3.length c0_3, .slice A0_4 l0_4.length c0_4, .int .i64 a0_5, .int .i64 a0_6, .slice A0_7 l0_7.length c0_7, .int .i64 a0_8, .int .i64 a0_9, .int .i64 a0_10, .int .i64 a0_11, .slice A0_12 l0_12.length c0_12, .int .i64 a0_13, .int .i64 a0_14, .int .i64 a0_15] 36 ?_; intro gb518 hg w17 hbox hb; have BK518 := Pst.A hbox; have GW518 := Pst.A (Pst.gs hg : w.heap.size ≤ gb518); have GE518 := Pst.A (Pst.gs hg : w.heap.size ≤ gb518); replace HB := Pst.A (below_step Pst.bel hb); clear hb hbox hg; have hcz18_3 : w17.cell? ⟨gb518, 3, none⟩ = some (.slice A0_3 l0_3.length c0_3) := (blk_cell BK518.out 3).trans rfl; have hcz18_10 : w17.cell? ⟨gb518, 10, none⟩ = some (.int .i64 a0_10) := (blk_cell BK518.out 10).trans rfl; have hcz18_11 : w17.cell? ⟨gb518, 11, none⟩ = some (.int .i64 a0_11) := (blk_cell BK518.out 11).trans rfl) | ((with_reducible refine gate_callee (f := 16) rfl ?_); refine goesL_ (some 7) rfl rfl Tryz.func16 (by kernel_rfl) rfl #[.agg #[.int .i64 a0_0, .int .i64 a0_1, .int .i64 a0_2, .slice A0_3 l0_3.length c0_3, .slice A0_4 l0_4.length c0_4, .int .i64 a0_5, .int .i64 a0_6, .slice A0_7 l0_7.length c0_7, .int .i64 a0_8, .int .i64 a0_9, .int .i64 a0_10, .int .i64 a0_11, .slice A0_12 l0_12.length c0_12, .int .i64 a0_13, .int .i64 a0_14, .int .i64 a0_15]] rfl Pst.ga ?_; (with_reducible refine (impl_WorldOk.calls k a0_0 a0_1 a0_2 _ _ l0_3 _ _ l0_4 a0_5 a0_6 _ _ l0_7 a0_8 a0_9 a0_10 a0_11 _ _ l0_12 a0_13 a0_14 a0_15 false _ ?side1 ?side2 ?side3 ?side4 ?side5 ?side6 ?side7 ?side8 A3.out).mono ?_); (case side1 => exact Pst.qc (Kd.C_below HR0_3.out HB.out)); (case side2 => exact HC0_3.out); (case side3 => exact Pst.qc (Kd.C_below HR0_4.out HB.out)); (case side4 => exact HC0_4.out); (case side5 => exact Pst.qc (Kd.C_below HR0_7.out HB.out)); (case side6 => exact HC0_7.out); (case side7 => exact Pst.qc (Kd.C_below HR0_12.out HB.out)); (case side8 => exact HC0_12.out); rintro e w19 ⟨rfl, hb⟩; refine ⟨_, rfl, ?_⟩; replace BK518 := Pst.A (Pst.kb BK518.out hb); replace HB := Pst.A (below_step Pst.bes hb); (try clear hb); (try clear hb2); (try clear hk); (try clear hi)))
 go_ret
 exact ⟨Pst.e1, Pst.bes⟩

/-! ### laws_at: function 11 -/
def laws_at.f (l0 : List Int) (a1 : Int) : Option (Int) := if a1 < (l0.length : Int) then (if 0 ≤ a1 then (some (wrap64 (rd l0 a1))) else (none)) else (some (Int.tmod (wrap64 ((wrap64 (a1 * 13)) + (wrap64 ((l0.length : Int) * 5)))) 256))
theorem laws_at.calls (A0 : Option Addr) (c0 : Nat) (l0 : List Int) (a1 : Int) (r : Int) (w : World) (hr0 : Kd.C (Kd.int .u8) w A0 l0.length l0) (hc0 : l0.length ≤ c0) (h : laws_at.f l0 a1 = some r) :
    Calls Tryz.prog 11 #[.slice A0 l0.length c0, .int .i64 a1] w fun e w' => e = .returned (.int .i64 r) ∧ Drawn0 w w' := by
 have HR0 := Pst.A hr0
 have HC0 := Pst.A hc0
 clear hr0 hc0
 have H : (if a1 < (l0.length : Int) then (if 0 ≤ a1 then (some (wrap64 (rd l0 a1))) else (none)) else (some (Int.tmod (wrap64 ((wrap64 (a1 * 13)) + (wrap64 ((l0.length : Int) * 5)))) 256))) = some r := h
 clear h
 by_cases c3 : a1 < (l0.length : Int)
 ·rw [if_pos c3] at H
  have c3b0 : decide (a1 < (l0.length : Int)) = true := decide_eq_true c3
  clear c3
  by_cases c4 : 0 ≤ a1
  ·rw [if_pos c4] at H
   have c4b0 : decide (0 ≤ a1) = true := decide_eq_true c4
   clear c4
   obtain rfl := Option.some.inj H
   have p523 : 0 ≤ (a1 : Int) := Pst.da
   have q523 : a1 < (l0.length : Int) := Pst.da
   obtain ⟨ad523, e523, hx523_0⟩ := Kd.at_int HR0.out a1 p523 q523
   cases e523
   replace p523 := eq_true p523
   replace q523 := eq_true q523
   go_enter Tryz.func11, Tryz.ntmps11
   go_wp2
   go_ret
   exact ⟨Pst.e2, by repeat (first | exact Drawn0.refl _ | apply Drawn0.step)⟩
  ·rw [if_neg c4] at H
   exact absurd H (by simp)
 ·rw [if_neg c3] at H
  have c3b0 : decide (a1 < (l0.length : Int)) = false := decide_eq_false c3
  clear c3
  obtain rfl := Option.some.inj H
  go_enter Tryz.func11, Tryz.ntmps11
  go_wp2
  go_ret
  exact ⟨Pst.e2, by repeat (first | exact Drawn0.refl _ | apply Drawn0.step)⟩

/-! ### spec_LoadAt: function 14 -/
def spec_LoadAt.j0 : Nat → Int → Bool → Int → Int → Int → List (S48) → List (S101) → Int → Int → List (S101) → Int → Int → Int → Int → List Int → Int → Int → Int → Option (Int)
 | 0, _, _, _, _, _, _, _, _, _, _, _, _, _, _, _, _, _, _ => none
 | k + 1, x1, x12, x525000, x525001, x525002, x525003, x525004, x525005, x525006, x525007, x525008, x525009, x525010, x525011, x525012, x525013, x525014, x525015 => if x12 = true then (some 0) else (if x525014 = 0 then (none) else (if (wrap64 (Int.tdiv x1 x525014)) ≥ (x525012.length : Int) then (if 0 ≤ (wrap64 ((x525012.length : Int) - 1)) then (if (wrap64 ((x525012.length : Int) - 1)) < (x525012.length : Int) then (some (rd x525012 (wrap64 ((x525012.length : Int) - 1)))) else (none)) else (none)) else (if 0 ≤ (wrap64 (Int.tdiv x1 x525014)) then (if (wrap64 (Int.tdiv x1 x525014)) < (x525012.length : Int) then (some (rd x525012 (wrap64 (Int.tdiv x1 x525014)))) else (none)) else (none))))
def spec_LoadAt.f (k : Nat) (a0_0 : Int) (a0_1 : Int) (a0_2 : Int) (l0_3 : List (S48)) (l0_4 : List (S101)) (a0_5 : Int) (a0_6 : Int) (l0_7 : List (S101)) (a0_8 : Int) (a0_9 : Int) (a0_10 : Int) (a0_11 : Int) (l0_12 : List Int) (a0_13 : Int) (a0_14 : Int) (a0_15 : Int) (a1 : Int) : Option (Int) := (spec_WorldOk.f k a0_0 a0_1 a0_2 l0_3 l0_4 a0_5 a0_6 l0_7 a0_8 a0_9 a0_10 a0_11 l0_12 a0_13 a0_14 a0_15).bind fun t525 => (if t525 = true then (spec_LoadAt.j0 k a1 (decide (a1 < 0)) a0_0 a0_1 a0_2 l0_3 l0_4 a0_5 a0_6 l0_7 a0_8 a0_9 a0_10 a0_11 l0_12 a0_13 a0_14 a0_15) else (spec_LoadAt.j0 k a1 true a0_0 a0_1 a0_2 l0_3 l0_4 a0_5 a0_6 l0_7 a0_8 a0_9 a0_10 a0_11 l0_12 a0_13 a0_14 a0_15))
theorem spec_LoadAt.mono_l : ∀ k, (∀ y0 y1 y2 y3 y4 y5 y6 y7 y8 y9 y10 y11 y12 y13 y14 y15 y16 y17, LeO (spec_LoadAt.j0 k y0 y1 y2 y3 y4 y5 y6 y7 y8 y9 y10 y11 y12 y13 y14 y15 y16 y17) (spec_LoadAt.j0 (k + 1) y0 y1 y2 y3 y4 y5 y6 y7 y8 y9 y10 y11 y12 y13 y14 y15 y16 y17))
 | 0 => fun _ _ _ _ _ _ _ _ _ _ _ _ _ _ _ _ _ _ r h => by simp [spec_LoadAt.j0] at h
 | k + 1 => by
  have ih0 := spec_LoadAt.mono_l k
  intro y0 y1 y2 y3 y4 y5 y6 y7 y8 y9 y10 y11 y12 y13 y14 y15 y16 y17
  unfold spec_LoadAt.j0
  have m0 := @spec_WorldOk.mono
  exact Pst.mo
theorem spec_LoadAt.mono : ∀ a0 a1 a2 a3 a4 a5 a6 a7 a8 a9 a10 a11 a12 a13 a14 a15 a16 k, LeO (spec_LoadAt.f k a0 a1 a2 a3 a4 a5 a6 a7 a8 a9 a10 a11 a12 a13 a14 a15 a16) (spec_LoadAt.f (k + 1) a0 a1 a2 a3 a4 a5 a6 a7 a8 a9 a10 a11 a12 a13 a14 a15 a16) := by
 intro a0 a1 a2 a3 a4 a5 a6 a7 a8 a9 a10 a11 a12 a13 a14 a15 a16 k
 have ih0 := spec_LoadAt.mono_l k
 unfold spec_LoadAt.f
 have m0 := @spec_WorldOk.mono
 exact Pst.mo
theorem spec_LoadAt.calls (k : Nat) (a0_0 : Int) (a0_1 : Int) (a0_2 : Int) (A0_3 : Option Addr) (c0_3 : Nat) (l0_3 : List (S48)) (A0_4 : Option Addr) (c0_4 : Nat) (l0_4 : List (S101)) (a0_5 : Int) (a0_6 : Int) (A0_7 : Option Addr) (c0_7 : Nat) (l0_7 : List (S101)) (a0_8 : Int) (a0_9 : Int) (a0_10 : Int) (a0_11 : Int) (A0_12 : Option Addr) (c0_12 : Nat) (l0_12 : List Int) (a0_13 : Int) (a0_14 : Int) (a0_15 : Int) (a1 : Int) (r : Int) (w : World) (hr0_3 : Kd.C k48 w A0_3 l0_3.length l0_3) (hc0_3 : l0_3.length ≤ c0_3) (hr0_4 : Kd.C k101 w A0_4 l0_4.length l0_4) (hc0_4 : l0_4.length ≤ c0_4) (hr0_7 : Kd.C k101 w A0_7 l0_7.length l0_7) (hc0_7 : l0_7.length ≤ c0_7) (hr0_12 : Kd.C (Kd.int .i64) w A0_12 l0_12.length l0_12) (hc0_12 : l0_12.length ≤ c0_12) (h : spec_LoadAt.f k a0_0 a0_1 a0_2 l0_3 l0_4 a0_5 a0_6 l0_7 a0_8 a0_9 a0_10 a0_11 l0_12 a0_13 a0_14 a0_15 a1 = some r) :
 Calls Tryz.prog 14 #[.agg #[.int .i64 a0_0, .int .i64 a0_1, .int .i64 a0_2, .slice A0_3 l0_3.length c0_3, .slice A0_4 l0_4.length c0_4, .int .i64 a0_5, .int .i64 a0_6, .slice A0_7 l0_7.length c0_7, .int .i64 a0_8, .int .i64 a0_9, .int .i64 a0_10, .int .i64 a0_11, .slice A0_12 l0_12.length c0_12, .int .i64 a0_13, .int .i64 a0_14, .int .i64 a0_15], .int .i64 a1] w fun e w' => e = .returned (.int .i64 r) ∧ Below w.heap.size w w' := by
 have hu36 := Tryz.underlying36
 have HR0_3 := Pst.A hr0_3
 have HC0_3 := Pst.A hc0_3
 clear hr0_3 hc0_3
 have HR0_4 := Pst.A hr0_4
 have HC0_4 := Pst.A hc0_4
 clear hr0_4 hc0_4
 have HR0_7 := Pst.A hr0_7
 have HC0_7 := Pst.A hc0_7
 clear hr0_7 hc0_7
 have HR0_12 := Pst.A hr0_12
 have HC0_12 := Pst.A hc0_12
 clear hr0_12 hc0_12
 have HB := Pst.A (Below.refl w.heap.size w)
 have H : ((spec_WorldOk.f k a0_0 a0_1 a0_2 l0_3 l0_4 a0_5 a0_6 l0_7 a0_8 a0_9 a0_10 a0_11 l0_12 a0_13 a0_14 a0_15).bind fun t525 => (if t525 = true then (spec_LoadAt.j0 k a1 (decide (a1 < 0)) a0_0 a0_1 a0_2 l0_3 l0_4 a0_5 a0_6 l0_7 a0_8 a0_9 a0_10 a0_11 l0_12 a0_13 a0_14 a0_15) else (spec_LoadAt.j0 k a1 true a0_0 a0_1 a0_2 l0_3 l0_4 a0_5 a0_6 l0_7 a0_8 a0_9 a0_10 a0_11 l0_12 a0_13 a0_14 a0_15))) = some r := h
 clear h
 have HC3 := Pst.A H
 clear H
 go_enter Tryz.func14, Tryz.ntmps14
 go_upto_region 1 with (first | ((with_reducible refine gate_dst (N := 2) rfl ?_); refine Pst.bx 2 #[.int .i64 a0_0, .int .i64 a0_1, .int .i64 a0_2, .slice A0_3 l0_3.length c0_3, .slice A0_4 l0_4.length c0_4, .int .i64 a0_5, .int .i64 a0_6, .slice A0_7 l0_7.length c0_7, .int .i64 a0_8, .int .i64 a0_9, .int .i64 a0_10, .int .i64 a0_11, .slice A0_12 l0_12.length c0_12, .int .i64 a0_13, .int .i64 a0_14, .int .i64 a0_15] 36 ?_; intro gb524 hg w4 hbox hb; have BK524 := Pst.A hbox; have GW524 := Pst.A (Pst.gs hg : w.heap.size ≤ gb524); have GE524 := Pst.A (Pst.gs hg : w.heap.size ≤ gb524); replace HB := Pst.A (below_step Pst.bel hb); clear hb hbox hg))
 (try simp only [Act.put, List.setIfInBounds_toArray, List.set_cons_zero, List.set_cons_succ])
 go_cut [12] (fun v12 wc => ∃ (kq : Nat) (x12_2 : Bool), v12 = .bool x12_2 ∧ Aside0 (spec_LoadAt.j0 kq a1 x12_2 a0_0 a0_1 a0_2 l0_3 l0_4 a0_5 a0_6 l0_7 a0_8 a0_9 a0_10 a0_11 l0_12 a0_13 a0_14 a0_15 = some r) ∧ Aside0 (kq ≤ k) ∧ Aside0 (wc.heap[gb524]? = some (.cells #[.int .i64 a0_0, .int .i64 a0_1, .int .i64 a0_2, (.slice A0_3 l0_3.length c0_3), (.slice A0_4 l0_4.length c0_4), .int .i64 a0_5, .int .i64 a0_6, (.slice A0_7 l0_7.length c0_7), .int .i64 a0_8, .int .i64 a0_9, .int .i64 a0_10, .int .i64 a0_11, (.slice A0_12 l0_12.length c0_12), .int .i64 a0_13, .int .i64 a0_14, .int .i64 a0_15] 36 (0, 0))) ∧ Aside0 (Below w.heap.size w wc))
 case first =>
  have H := HC3.out
  clear HC3
  obtain ⟨t525, A50, H⟩ := Pst.bd H
  have A5 := Pst.A A50
  clear A50
  by_cases c6 : t525 = true
  ·subst c6
   rw [if_pos rfl] at H
   have H' := Pst.A H
   clear H
   obtain ⟨hcz7_0, hcz7_1, hcz7_2, hcz7_3, hcz7_4, hcz7_5, hcz7_6, hcz7_7, hcz7_8, hcz7_9, hcz7_10, hcz7_11, hcz7_12, hcz7_13, hcz7_14, hcz7_15⟩ := Pst.c16 BK524.out
   obtain ⟨hfz7_0, hfz7_1, hfz7_2, hfz7_3, hfz7_4, hfz7_5, hfz7_6, hfz7_7, hfz7_8, hfz7_9, hfz7_10, hfz7_11, hfz7_12, hfz7_13, hfz7_14, hfz7_15⟩ := Pst.f16 BK524.out
   go_wp2_with (first | ((with_reducible refine gate_callee (f := 8) rfl ?_); refine goesL_ (some 7) rfl rfl Tryz.func8 (by kernel_rfl) rfl #[.agg #[.int .i64 a0_0, .int .i64 a0_1, .int .i64 a0_2, .slice A0_3 l0_3.length c0_3, .slice A0_4 l0_4.length c0_4, .int .i64 a0_5, .int .i64 a0_6, .slice A0_7 l0_7.length c0_7, .int .i64 a0_8, .int .i64 a0_9, .int .i64 a0_10, .int .i64 a0_11, .slice A0_12 l0_12.length c0_12, .int .i64 a0_13, .int .i64 a0_14, .int .i64 a0_15]] rfl Pst.ga ?_; (with_reducible refine (spec_WorldOk.calls k a0_0 a0_1 a0_2 _ _ l0_3 _ _ l0_4 a0_5 a0_6 _ _ l0_7 a0_8 a0_9 a0_10 a0_11 _ _ l0_12 a0_13 a0_14 a0_15 true _ ?side1 ?side2 ?side3 ?side4 ?side5 ?side6 ?side7 ?side8 A5.out).mono ?_); (case side1 => exact Pst.qc (Kd.C_below HR0_3.out HB.out)); (case side2 => exact HC0_3.out); (case side3 => exact Pst.qc (Kd.C_below HR0_4.out HB.out)); (case side4 => exact HC0_4.out); (case side5 => exact Pst.qc (Kd.C_below HR0_7.out HB.out)); (case side6 => exact HC0_7.out); (case side7 => exact Pst.qc (Kd.C_below HR0_12.out HB.out)); (case side8 => exact HC0_12.out); rintro e w8 ⟨rfl, hb⟩; refine ⟨_, rfl, ?_⟩; replace BK524 := Pst.A (Pst.kb BK524.out hb); replace HB := Pst.A (below_step Pst.bes hb); (try clear hb); (try clear hb2); (try clear hk); (try clear hi)))
   go_meet
   case rel => exact ⟨_, (decide (a1 < 0)), Pst.e2, H', ⟨by first | omega | exact Nat.le_refl _⟩, ⟨by exact Pst.qb BK524.out⟩, ⟨Pst.bes⟩⟩
  replace c6 := Bool.eq_false_iff.mpr c6
  subst c6
  rw [if_neg Pst.ft] at H
  have H' := Pst.A H
  clear H
  obtain ⟨hcz9_0, hcz9_1, hcz9_2, hcz9_3, hcz9_4, hcz9_5, hcz9_6, hcz9_7, hcz9_8, hcz9_9, hcz9_10, hcz9_11, hcz9_12, hcz9_13, hcz9_14, hcz9_15⟩ := Pst.c16 BK524.out
  obtain ⟨hfz9_0, hfz9_1, hfz9_2, hfz9_3, hfz9_4, hfz9_5, hfz9_6, hfz9_7, hfz9_8, hfz9_9, hfz9_10, hfz9_11, hfz9_12, hfz9_13, hfz9_14, hfz9_15⟩ := Pst.f16 BK524.out
  go_wp2_with (first | ((with_reducible refine gate_callee (f := 8) rfl ?_); refine goesL_ (some 7) rfl rfl Tryz.func8 (by kernel_rfl) rfl #[.agg #[.int .i64 a0_0, .int .i64 a0_1, .int .i64 a0_2, .slice A0_3 l0_3.length c0_3, .slice A0_4 l0_4.length c0_4, .int .i64 a0_5, .int .i64 a0_6, .slice A0_7 l0_7.length c0_7, .int .i64 a0_8, .int .i64 a0_9, .int .i64 a0_10, .int .i64 a0_11, .slice A0_12 l0_12.length c0_12, .int .i64 a0_13, .int .i64 a0_14, .int .i64 a0_15]] rfl Pst.ga ?_; (with_reducible refine (spec_WorldOk.calls k a0_0 a0_1 a0_2 _ _ l0_3 _ _ l0_4 a0_5 a0_6 _ _ l0_7 a0_8 a0_9 a0_10 a0_11 _ _ l0_12 a0_13 a0_14 a0_15 false _ ?side1 ?side2 ?side3 ?side4 ?side5 ?side6 ?side7 ?side8 A5.out).mono ?_); (case side1 => exact Pst.qc (Kd.C_below HR0_3.out HB.out)); (case side2 => exact HC0_3.out); (case side3 => exact Pst.qc (Kd.C_below HR0_4.out HB.out)); (case side4 => exact HC0_4.out); (case side5 => exact Pst.qc (Kd.C_below HR0_7.out HB.out)); (case side6 => exact HC0_7.out); (case side7 => exact Pst.qc (Kd.C_below HR0_12.out HB.out)); (case side8 => exact HC0_12.out); rintro e w10 ⟨rfl, hb⟩; refine ⟨_, rfl, ?_⟩; replace BK524 := Pst.A (Pst.kb BK524.out hb); replace HB := Pst.A (below_step Pst.bes hb); (try clear hb); (try clear hb2); (try clear hk); (try clear hi)))
  go_meet
  case rel => exact ⟨_, (true), Pst.e2, H', ⟨by first | omega | exact Nat.le_refl _⟩, ⟨by exact Pst.qb BK524.out⟩, ⟨Pst.bes⟩⟩
 clear HC3
 try clear c1
 try clear p2
 try clear c6
 try clear c8
 obtain ⟨kq, x12_2, rfl, HA, HJ2, BK524, HB⟩ := hcut
 cases kq with
 | zero => exact absurd HA.out (by simp [spec_LoadAt.j0])
 | succ kj2 =>
  have H := HA.out
  clear HA
  simp only [spec_LoadAt.j0] at H
  by_cases c11 : x12_2 = true
  ·subst c11
   rw [if_pos rfl] at H
   obtain rfl := Option.some.inj H
   go_wp2
   go_ret
   exact ⟨Pst.e1, Pst.bes⟩
  replace c11 := Bool.eq_false_iff.mpr c11
  subst c11
  rw [if_neg Pst.ft] at H
  by_cases c12 : a0_14 = 0
  ·rw [if_pos c12] at H
   exact absurd H (by simp)
  rw [if_neg c12] at H
  have c12b0 : (a0_14 == 0) = false := beq_eq_false_iff_ne.mpr c12
  have c12b1 : (a0_14 != 0) = true := bne_iff_ne.mpr c12
  by_cases c13 : (wrap64 (Int.tdiv a1 a0_14)) ≥ (l0_12.length : Int)
  ·rw [if_pos c13] at H
   have c13b0 : decide ((l0_12.length : Int) ≤ (wrap64 (Int.tdiv a1 a0_14))) = true := decide_eq_true c13
   clear c13
   obtain ⟨ji14, hji14⟩ : ∃ j_ : Int, (wrap64 ((l0_12.length : Int) - 1)) = j_ := ⟨_, rfl⟩
   replace H : (if 0 ≤ (ji14) then (if (ji14) < (l0_12.length : Int) then (some (rd l0_12 (ji14))) else (none)) else (none)) = some r := by first | (rw [hji14] at H; exact H) | (simp only [hji14] at H ⊢; exact H)
   have hji14w : (IntKind.i64.wrap ((l0_12.length : Int) - 1)) = ji14 := (i64_w _).trans hji14
   by_cases c15 : 0 ≤ (ji14)
   ·rw [if_pos c15] at H
    have c15b0 : decide (0 ≤ (ji14)) = true := decide_eq_true c15
    clear c15
    by_cases c16 : (ji14) < (l0_12.length : Int)
    ·rw [if_pos c16] at H
     have c16b0 : decide ((ji14) < (l0_12.length : Int)) = true := decide_eq_true c16
     clear c16
     obtain rfl := Option.some.inj H
     obtain ⟨hcz17_0, hcz17_1, hcz17_2, hcz17_3, hcz17_4, hcz17_5, hcz17_6, hcz17_7, hcz17_8, hcz17_9, hcz17_10, hcz17_11, hcz17_12, hcz17_13, hcz17_14, hcz17_15⟩ := Pst.c16 BK524.out
     obtain ⟨hfz17_0, hfz17_1, hfz17_2, hfz17_3, hfz17_4, hfz17_5, hfz17_6, hfz17_7, hfz17_8, hfz17_9, hfz17_10, hfz17_11, hfz17_12, hfz17_13, hfz17_14, hfz17_15⟩ := Pst.f16 BK524.out
     have p526 : 0 ≤ ((ji14) : Int) := Pst.da
     have q526 : (ji14) < (l0_12.length : Int) := Pst.da
     obtain ⟨ad526, e526, hx526_0⟩ := Kd.at_int HR0_12.out (ji14) p526 q526
     cases e526
     replace hx526_0 := (HB.out.cell (World.block_lt_of_cell? w _ hx526_0)).trans hx526_0
     replace p526 := eq_true p526
     replace q526 := eq_true q526
     go_wp2
     go_ret
     exact ⟨by first | rfl | (simp [errW_none, errW_some] <;> rfl) | (simp only [← hji14]; first | rfl | (simp [errW_none, errW_some] <;> rfl)) | (simp [*, errW_none, errW_some] <;> rfl), Pst.bes⟩
    rw [if_neg c16] at H
    exact absurd H (by simp)
   rw [if_neg c15] at H
   exact absurd H (by simp)
  rw [if_neg c13] at H
  have c13b0 : decide ((l0_12.length : Int) ≤ (wrap64 (Int.tdiv a1 a0_14))) = false := decide_eq_false c13
  clear c13
  obtain ⟨ji18, hji18⟩ : ∃ j_ : Int, (wrap64 (Int.tdiv a1 a0_14)) = j_ := ⟨_, rfl⟩
  replace H : (if 0 ≤ (ji18) then (if (ji18) < (l0_12.length : Int) then (some (rd l0_12 (ji18))) else (none)) else (none)) = some r := by first | (rw [hji18] at H; exact H) | (simp only [hji18] at H ⊢; exact H)
  (try rw [hji18] at c13b0)
  have hji18w : (IntKind.i64.wrap (Int.tdiv a1 a0_14)) = ji18 := (i64_w _).trans hji18
  by_cases c19 : 0 ≤ (ji18)
  ·rw [if_pos c19] at H
   have c19b0 : decide (0 ≤ (ji18)) = true := decide_eq_true c19
   clear c19
   by_cases c20 : (ji18) < (l0_12.length : Int)
   ·rw [if_pos c20] at H
    have c20b0 : decide ((ji18) < (l0_12.length : Int)) = true := decide_eq_true c20
    clear c20
    obtain rfl := Option.some.inj H
    obtain ⟨hcz21_0, hcz21_1, hcz21_2, hcz21_3, hcz21_4, hcz21_5, hcz21_6, hcz21_7, hcz21_8, hcz21_9, hcz21_10, hcz21_11, hcz21_12, hcz21_13, hcz21_14, hcz21_15⟩ := Pst.c16 BK524.out
    obtain ⟨hfz21_0, hfz21_1, hfz21_2, hfz21_3, hfz21_4, hfz21_5, hfz21_6, hfz21_7, hfz21_8, hfz21_9, hfz21_10, hfz21_11, hfz21_12, hfz21_13, hfz21_14, hfz21_15⟩ := Pst.f16 BK524.out
    have p527 : 0 ≤ ((ji18) : Int) := Pst.da
    have q527 : (ji18) < (l0_12.length : Int) := Pst.da
    obtain ⟨ad527, e527, hx527_0⟩ := Kd.at_int HR0_12.out (ji18) p527 q527
    cases e527
    replace hx527_0 := (HB.out.cell (World.block_lt_of_cell? w _ hx527_0)).trans hx527_0
    replace p527 := eq_true p527
    replace q527 := eq_true q527
    go_wp2
    go_ret
    exact ⟨by first | rfl | (simp [errW_none, errW_some] <;> rfl) | (simp only [← hji18]; first | rfl | (simp [errW_none, errW_some] <;> rfl)) | (simp [*, errW_none, errW_some] <;> rfl), Pst.bes⟩
   rw [if_neg c20] at H
   exact absurd H (by simp)
  rw [if_neg c19] at H
  exact absurd H (by simp)
theorem spec_LoadAt.j0.st {x1 : Int} {x12 : Bool} {x525000 : Int} {x525001 : Int} {x525002 : Int} {x525003 : List (S48)} {x525004 : List (S101)} {x525005 : Int} {x525006 : Int} {x525007 : List (S101)} {x525008 : Int} {x525009 : Int} {x525010 : Int} {x525011 : Int} {x525012 : List Int} {x525013 : Int} {x525014 : Int} {x525015 : Int} {r : (Int)} (H : Ev (fun k => if x12 = true then (some 0) else (if x525014 = 0 then (none) else (if (wrap64 (Int.tdiv x1 x525014)) ≥ (x525012.length : Int) then (if 0 ≤ (wrap64 ((x525012.length : Int) - 1)) then (if (wrap64 ((x525012.length : Int) - 1)) < (x525012.length : Int) then (some (rd x525012 (wrap64 ((x525012.length : Int) - 1)))) else (none)) else (none)) else (if 0 ≤ (wrap64 (Int.tdiv x1 x525014)) then (if (wrap64 (Int.tdiv x1 x525014)) < (x525012.length : Int) then (some (rd x525012 (wrap64 (Int.tdiv x1 x525014)))) else (none)) else (none))))) r) : Ev (fun k => spec_LoadAt.j0 k x1 x12 x525000 x525001 x525002 x525003 x525004 x525005 x525006 x525007 x525008 x525009 x525010 x525011 x525012 x525013 x525014 x525015) r := Ev.step (fun k => spec_LoadAt.j0.eq_2 x1 x12 x525000 x525001 x525002 x525003 x525004 x525005 x525006 x525007 x525008 x525009 x525010 x525011 x525012 x525013 x525014 x525015 k) H

/-! ### spec_CeilDiv: function 31 -/
def spec_CeilDiv.f (a0 : Int) (a1 : Int) : Option (Int) := if a1 < 1 then (some 0) else (if a1 = 0 then (none) else (if (Int.tmod a0 a1) > 0 then (some (wrap64 ((wrap64 (Int.tdiv a0 a1)) + 1))) else (some (wrap64 (Int.tdiv a0 a1)))))
theorem spec_CeilDiv.calls (a0 : Int) (a1 : Int) (r : Int) (w : World) (h : spec_CeilDiv.f a0 a1 = some r) :
    Calls Tryz.prog 31 #[.int .i64 a0, .int .i64 a1] w fun e w' => e = .returned (.int .i64 r) ∧ Drawn0 w w' := by
 have H : (if a1 < 1 then (some 0) else (if a1 = 0 then (none) else (if (Int.tmod a0 a1) > 0 then (some (wrap64 ((wrap64 (Int.tdiv a0 a1)) + 1))) else (some (wrap64 (Int.tdiv a0 a1)))))) = some r := h
 clear h
 by_cases c3 : a1 < 1
 ·rw [if_pos c3] at H
  have c3b0 : decide (a1 < 1) = true := decide_eq_true c3
  clear c3
  obtain rfl := Option.some.inj H
  go_enter Tryz.func31, Tryz.ntmps31
  go_wp2
  go_ret
  exact ⟨Pst.e2, by repeat (first | exact Drawn0.refl _ | apply Drawn0.step)⟩
 ·rw [if_neg c3] at H
  have c3b0 : decide (a1 < 1) = false := decide_eq_false c3
  clear c3
  by_cases c4 : a1 = 0
  ·rw [if_pos c4] at H
   exact absurd H (by simp)
  ·rw [if_neg c4] at H
   have c4b0 : (a1 == 0) = false := beq_eq_false_iff_ne.mpr c4
   have c4b1 : (a1 != 0) = true := bne_iff_ne.mpr c4
   by_cases c5 : (Int.tmod a0 a1) > 0
   ·rw [if_pos c5] at H
    have c5b0 : decide (0 < (Int.tmod a0 a1)) = true := decide_eq_true c5
    clear c5
    obtain rfl := Option.some.inj H
    go_enter Tryz.func31, Tryz.ntmps31
    go_wp2
    go_ret
    exact ⟨Pst.e2, by repeat (first | exact Drawn0.refl _ | apply Drawn0.step)⟩
   ·rw [if_neg c5] at H
    have c5b0 : decide (0 < (Int.tmod a0 a1)) = false := decide_eq_false c5
    clear c5
    obtain rfl := Option.some.inj H
    go_enter Tryz.func31, Tryz.ntmps31
    go_wp2
    go_ret
    exact ⟨Pst.e2, by repeat (first | exact Drawn0.refl _ | apply Drawn0.step)⟩

/-! ### spec_l06Cut: function 32 -/
def spec_l06Cut.f (a0 : Int) (a1 : Int) (a2 : Int) : Option (Int) := if a0 < a1 then (some a1) else (if a0 > a2 then (some a2) else (some a0))
theorem spec_l06Cut.calls (a0 : Int) (a1 : Int) (a2 : Int) (r : Int) (w : World) (h : spec_l06Cut.f a0 a1 a2 = some r) :
    Calls Tryz.prog 32 #[.int .i64 a0, .int .i64 a1, .int .i64 a2] w fun e w' => e = .returned (.int .i64 r) ∧ Drawn0 w w' := by
 have H : (if a0 < a1 then (some a1) else (if a0 > a2 then (some a2) else (some a0))) = some r := h
 clear h
 by_cases c4 : a0 < a1
 ·rw [if_pos c4] at H
  have c4b0 : decide (a0 < a1) = true := decide_eq_true c4
  clear c4
  obtain rfl := Option.some.inj H
  go_enter Tryz.func32, Tryz.ntmps32
  go_wp2
  go_ret
  exact ⟨Pst.e2, by repeat (first | exact Drawn0.refl _ | apply Drawn0.step)⟩
 ·rw [if_neg c4] at H
  have c4b0 : decide (a0 < a1) = false := decide_eq_false c4
  clear c4
  by_cases c5 : a0 > a2
  ·rw [if_pos c5] at H
   have c5b0 : decide (a2 < a0) = true := decide_eq_true c5
   clear c5
   obtain rfl := Option.some.inj H
   go_enter Tryz.func32, Tryz.ntmps32
   go_wp2
   go_ret
   exact ⟨Pst.e2, by repeat (first | exact Drawn0.refl _ | apply Drawn0.step)⟩
  ·rw [if_neg c5] at H
   have c5b0 : decide (a2 < a0) = false := decide_eq_false c5
   clear c5
   obtain rfl := Option.some.inj H
   go_enter Tryz.func32, Tryz.ntmps32
   go_wp2
   go_ret
   exact ⟨Pst.e2, by repeat (first | exact Drawn0.refl _ | apply Drawn0.step)⟩

/-! ### spec_IdealAt: function 12 -/
theorem spec_IdealAt.loadWhole {P : Program} {o : Oper} {a : Act} {w : World} (ty : TypeId) (x : Operand) (ho : o.op = .load ty x) (g : Nat) (hx : a.eval x = .pointer (some ⟨g, 0, none⟩)) (t : TypeId) (cs : Array Value) (d : TypeDesc)
 (hg : w.heap[g]? = some (.cells cs t (0, 0))) (hu : P.underlying ty = some d) (hd : (match d with | .struct _ | .array _ _ => true | _ => false) = true) (hi : (P.info? ty).map (·.size) = some cs.size) :
 (execOp a.eval o).run P w = .ok (.value (.agg cs)) w := by
 unfold execOp
 simp only [ho, hx, Instr.loadAt, Instr.sureAddr, Sem.run_bind, Sem.run_pure, Result.andThen_ok, run_loadVar_row w g t ty cs (0, 0) d hg hu hd hi]
def spec_IdealAt.f (k : Nat) (a0_0 : Int) (a0_1 : Int) (a0_2 : Int) (l0_3 : List (S48)) (l0_4 : List (S101)) (a0_5 : Int) (a0_6 : Int) (l0_7 : List (S101)) (a0_8 : Int) (a0_9 : Int) (a0_10 : Int) (a0_11 : Int) (l0_12 : List Int) (a0_13 : Int) (a0_14 : Int) (a0_15 : Int) (a1 : Int) : Option (Int) := (spec_WorldOk.f k a0_0 a0_1 a0_2 l0_3 l0_4 a0_5 a0_6 l0_7 a0_8 a0_9 a0_10 a0_11 l0_12 a0_13 a0_14 a0_15).bind fun t529 => (if t529 = true then ((spec_LoadAt.f k a0_0 a0_1 a0_2 l0_3 l0_4 a0_5 a0_6 l0_7 a0_8 a0_9 a0_10 a0_11 l0_12 a0_13 a0_14 a0_15 a1).bind fun t530 => (if 0 < (l0_3.length : Int) then ((spec_CeilDiv.f t530 ((rd_T48 l0_3 0).f1)).bind fun t532 => ((spec_l06Cut.f t532 a0_10 a0_11).bind fun t533 => (if t533 > 12 then (some 12) else (some t533)))) else (none))) else (some (-1)))
theorem spec_IdealAt.mono : ∀ a0 a1 a2 a3 a4 a5 a6 a7 a8 a9 a10 a11 a12 a13 a14 a15 a16 k, LeO (spec_IdealAt.f k a0 a1 a2 a3 a4 a5 a6 a7 a8 a9 a10 a11 a12 a13 a14 a15 a16) (spec_IdealAt.f (k + 1) a0 a1 a2 a3 a4 a5 a6 a7 a8 a9 a10 a11 a12 a13 a14 a15 a16) := by
 intro a0 a1 a2 a3 a4 a5 a6 a7 a8 a9 a10 a11 a12 a13 a14 a15 a16 k
 unfold spec_IdealAt.f
 have m0 := @spec_LoadAt.mono
 have m1 := @spec_WorldOk.mono
 exact Pst.mo
def spec_IdealAt.T3 : Bool × List (List Nat × List Nat) := (true, [([], []), ([], []), ([0, 1], [0, 1]), ([], []), ([3], [3]), ([4], [4]), ([5], [5]), ([6], [6]), ([7], [7]), ([2, 8, 2], [2, 8]), ([9, 9, 0, 1, 2, 3, 4, 5, 6, 7, 8, 9], [9])])
def spec_IdealAt.B3 : List Nat := [0, 0, 3, 0, 8, 24, 56, 120, 248, 511, 1023]
theorem spec_IdealAt.tab3 : rtab .any (opsOf Tryz.f12 3) = spec_IdealAt.T3 := by kernel_rfl
theorem spec_IdealAt.bits3 : waitsOk spec_IdealAt.T3.2 spec_IdealAt.B3 = true := by kernel_rfl
theorem spec_IdealAt.calls (k : Nat) (a0_0 : Int) (a0_1 : Int) (a0_2 : Int) (A0_3 : Option Addr) (c0_3 : Nat) (l0_3 : List (S48)) (A0_4 : Option Addr) (c0_4 : Nat) (l0_4 : List (S101)) (a0_5 : Int) (a0_6 : Int) (A0_7 : Option Addr) (c0_7 : Nat) (l0_7 : List (S101)) (a0_8 : Int) (a0_9 : Int) (a0_10 : Int) (a0_11 : Int) (A0_12 : Option Addr) (c0_12 : Nat) (l0_12 : List Int) (a0_13 : Int) (a0_14 : Int) (a0_15 : Int) (a1 : Int) (r : Int) (w : World) (hr0_3 : Kd.C k48 w A0_3 l0_3.length l0_3) (hc0_3 : l0_3.length ≤ c0_3) (hr0_4 : Kd.C k101 w A0_4 l0_4.length l0_4) (hc0_4 : l0_4.length ≤ c0_4) (hr0_7 : Kd.C k101 w A0_7 l0_7.length l0_7) (hc0_7 : l0_7.length ≤ c0_7) (hr0_12 : Kd.C (Kd.int .i64) w A0_12 l0_12.length l0_12) (hc0_12 : l0_12.length ≤ c0_12) (h : spec_IdealAt.f k a0_0 a0_1 a0_2 l0_3 l0_4 a0_5 a0_6 l0_7 a0_8 a0_9 a0_10 a0_11 l0_12 a0_13 a0_14 a0_15 a1 = some r) :
 Calls Tryz.prog 12 #[.agg #[.int .i64 a0_0, .int .i64 a0_1, .int .i64 a0_2, .slice A0_3 l0_3.length c0_3, .slice A0_4 l0_4.length c0_4, .int .i64 a0_5, .int .i64 a0_6, .slice A0_7 l0_7.length c0_7, .int .i64 a0_8, .int .i64 a0_9, .int .i64 a0_10, .int .i64 a0_11, .slice A0_12 l0_12.length c0_12, .int .i64 a0_13, .int .i64 a0_14, .int .i64 a0_15], .int .i64 a1] w fun e w' => e = .returned (.int .i64 r) ∧ Below w.heap.size w w' := by
 have hu36 := Tryz.underlying36
 have HR0_3 := Pst.A hr0_3
 have HC0_3 := Pst.A hc0_3
 clear hr0_3 hc0_3
 have HR0_4 := Pst.A hr0_4
 have HC0_4 := Pst.A hc0_4
 clear hr0_4 hc0_4
 have HR0_7 := Pst.A hr0_7
 have HC0_7 := Pst.A hc0_7
 clear hr0_7 hc0_7
 have HR0_12 := Pst.A hr0_12
 have HC0_12 := Pst.A hc0_12
 clear hr0_12 hc0_12
 have HB := Pst.A (Below.refl w.heap.size w)
 have H : ((spec_WorldOk.f k a0_0 a0_1 a0_2 l0_3 l0_4 a0_5 a0_6 l0_7 a0_8 a0_9 a0_10 a0_11 l0_12 a0_13 a0_14 a0_15).bind fun t529 => (if t529 = true then ((spec_LoadAt.f k a0_0 a0_1 a0_2 l0_3 l0_4 a0_5 a0_6 l0_7 a0_8 a0_9 a0_10 a0_11 l0_12 a0_13 a0_14 a0_15 a1).bind fun t530 => (if 0 < (l0_3.length : Int) then ((spec_CeilDiv.f t530 ((rd_T48 l0_3 0).f1)).bind fun t532 => ((spec_l06Cut.f t532 a0_10 a0_11).bind fun t533 => (if t533 > 12 then (some 12) else (some t533)))) else (none))) else (some (-1)))) = some r := h
 clear h
 obtain ⟨t529, A30, H⟩ := Pst.bd H
 have A3 := Pst.A A30
 clear A30
 by_cases c4 : t529 = true
 ·subst c4
  rw [if_pos rfl] at H
  obtain ⟨t530, A50, H⟩ := Pst.bd H
  have A5 := Pst.A A50
  clear A50
  by_cases c6 : 0 < (l0_3.length : Int)
  ·rw [if_pos c6] at H
   have c6b0 : decide (0 < (l0_3.length : Int)) = true := decide_eq_true c6
   have c6b1 : decide (0 < l0_3.length) = true := decide_eq_true (by omega)
   clear c6
   obtain ⟨t532, A70, H⟩ := Pst.bd H
   have A7 := Pst.A A70
   clear A70
   obtain ⟨t533, A80, H⟩ := Pst.bd H
   have A8 := Pst.A A80
   clear A80
   by_cases c9 : t533 > 12
   ·rw [if_pos c9] at H
    have c9b0 : decide (12 < t533) = true := decide_eq_true c9
    clear c9
    obtain rfl := Option.some.inj H
    go_enter Tryz.func12, Tryz.ntmps12
    try go_wp2_with (first | ((with_reducible refine gate_ (.load 36 (.tmp 2)) rfl ?_); refine wpList_load_row rfl 36 (.tmp 2) rfl gb528 rfl 36 _ _ _ (show _ = some _ from by exact Pst.qb BK528.out) Tryz.underlying36 rfl (by kernel_rfl) ?_) | ((with_reducible refine gate_dst (N := 2) rfl ?_); refine Pst.bx 2 #[.int .i64 a0_0, .int .i64 a0_1, .int .i64 a0_2, .slice A0_3 l0_3.length c0_3, .slice A0_4 l0_4.length c0_4, .int .i64 a0_5, .int .i64 a0_6, .slice A0_7 l0_7.length c0_7, .int .i64 a0_8, .int .i64 a0_9, .int .i64 a0_10, .int .i64 a0_11, .slice A0_12 l0_12.length c0_12, .int .i64 a0_13, .int .i64 a0_14, .int .i64 a0_15] 36 ?_; intro gb528 hg w10 hbox hb; have BK528 := Pst.A hbox; have GW528 := Pst.A (Pst.gs hg : w.heap.size ≤ gb528); have GE528 := Pst.A (Pst.gs hg : w.heap.size ≤ gb528); replace HB := Pst.A (below_step Pst.bel hb); clear hb hbox hg; have hcz11_3 : w10.cell? ⟨gb528, 3, none⟩ = some (.slice A0_3 l0_3.length c0_3) := (blk_cell BK528.out 3).trans rfl; have hcz11_10 : w10.cell? ⟨gb528, 10, none⟩ = some (.int .i64 a0_10) := (blk_cell BK528.out 10).trans rfl; have hcz11_11 : w10.cell? ⟨gb528, 11, none⟩ = some (.int .i64 a0_11) := (blk_cell BK528.out 11).trans rfl) | ((with_reducible refine gate_callee (f := 8) rfl ?_); refine goesL_ (some 7) rfl rfl Tryz.func8 (by kernel_rfl) rfl #[.agg #[.int .i64 a0_0, .int .i64 a0_1, .int .i64 a0_2, .slice A0_3 l0_3.length c0_3, .slice A0_4 l0_4.length c0_4, .int .i64 a0_5, .int .i64 a0_6, .slice A0_7 l0_7.length c0_7, .int .i64 a0_8, .int .i64 a0_9, .int .i64 a0_10, .int .i64 a0_11, .slice A0_12 l0_12.length c0_12, .int .i64 a0_13, .int .i64 a0_14, .int .i64 a0_15]] rfl Pst.ga ?_; (with_reducible refine (spec_WorldOk.calls k a0_0 a0_1 a0_2 _ _ l0_3 _ _ l0_4 a0_5 a0_6 _ _ l0_7 a0_8 a0_9 a0_10 a0_11 _ _ l0_12 a0_13 a0_14 a0_15 true _ ?side1 ?side2 ?side3 ?side4 ?side5 ?side6 ?side7 ?side8 A3.out).mono ?_); (case side1 => exact Pst.qc (Kd.C_below HR0_3.out HB.out)); (case side2 => exact HC0_3.out); (case side3 => exact Pst.qc (Kd.C_below HR0_4.out HB.out)); (case side4 => exact HC0_4.out); (case side5 => exact Pst.qc (Kd.C_below HR0_7.out HB.out)); (case side6 => exact HC0_7.out); (case side7 => exact Pst.qc (Kd.C_below HR0_12.out HB.out)); (case side8 => exact HC0_12.out); rintro e w12 ⟨rfl, hb⟩; refine ⟨_, rfl, ?_⟩; replace BK528 := Pst.A (Pst.kb BK528.out hb); replace HB := Pst.A (below_step Pst.bes hb); (try clear hb); (try clear hb2); (try clear hk); (try clear hi)))
    replace BK528 := Pst.A (blk_drew BK528.out)
    replace HB := Pst.A (below_drew1 HB.out)
    have p531 : 0 ≤ (0 : Int) := (by omega)
    have q531 : 0 < (l0_3.length : Int) := Pst.da
    obtain ⟨ad531, e531, hx531_0, hx531_1, hx531_2⟩ := at_T48 HR0_3.out 0 p531 q531
    have hw531_2 := hx531_2
    (try rw [show ((0 : Int)).toNat = 0 from rfl] at hw531_2)
    (try rw [show 0 * 3 = 0 from rfl] at hw531_2)
    (try rw [Addr.add_zero'] at hw531_2)
    have hw531_1 := hx531_1
    (try rw [show ((0 : Int)).toNat = 0 from rfl] at hw531_1)
    (try rw [show 0 * 3 = 0 from rfl] at hw531_1)
    (try rw [Addr.add_zero'] at hw531_1)
    have hw531_0 := hx531_0
    (try rw [show ((0 : Int)).toNat = 0 from rfl] at hw531_0)
    (try rw [show 0 * 3 = 0 from rfl] at hw531_0)
    (try rw [Addr.add_zero'] at hw531_0)
    cases e531
    have qi531 : (0 < l0_3.length) = True := eq_true (by omega)
    (try rw [show ((0 : Int)).toNat = 0 from rfl] at hx531_0)
    (try rw [show 0 * 3 = 0 from rfl] at hx531_0)
    (try rw [Addr.add_zero'] at hx531_0)
    (try rw [show ((0 : Int)).toNat = 0 from rfl] at hx531_1)
    (try rw [show 0 * 3 = 0 from rfl] at hx531_1)
    (try rw [Addr.add_zero'] at hx531_1)
    (try rw [show ((0 : Int)).toNat = 0 from rfl] at hx531_2)
    (try rw [show 0 * 3 = 0 from rfl] at hx531_2)
    (try rw [Addr.add_zero'] at hx531_2)
    replace hx531_0 := (HB.out.cell (World.block_lt_of_cell? w _ hx531_0)).trans hx531_0
    replace hx531_1 := (HB.out.cell (World.block_lt_of_cell? w _ hx531_1)).trans hx531_1
    replace hx531_2 := (HB.out.cell (World.block_lt_of_cell? w _ hx531_2)).trans hx531_2
    replace p531 := eq_true p531
    replace q531 := eq_true q531
    refine start_ (n := 11) (S := fun w' => w'.heap[gb528]? = some (.cells #[.int .i64 a0_0, .int .i64 a0_1, .int .i64 a0_2, .slice (some ad531) l0_3.length c0_3, .slice A0_4 l0_4.length c0_4, .int .i64 a0_5, .int .i64 a0_6, .slice A0_7 l0_7.length c0_7, .int .i64 a0_8, .int .i64 a0_9, .int .i64 a0_10, .int .i64 a0_11, .slice A0_12 l0_12.length c0_12, .int .i64 a0_13, .int .i64 a0_14, .int .i64 a0_15] 36 (0, 0)) ∧ w'.cell? ⟨gb528, 3, none⟩ = some (.slice (some ad531) l0_3.length c0_3) ∧ w'.cell? ⟨gb528, 10, none⟩ = some (.int .i64 a0_10) ∧ w'.cell? ⟨gb528, 11, none⟩ = some (.int .i64 a0_11) ∧ w'.cell? ad531 = some (.string ((rd_T48 l0_3 0).f0)) ∧ w'.cell? ⟨ad531.block, ad531.off + 1, none⟩ = some (.int .i64 ((rd_T48 l0_3 0).f1)) ∧ w'.cell? ⟨ad531.block, ad531.off + 2, none⟩ = some (.int .i64 ((rd_T48 l0_3 0).f2))) (ds := []) #[false, false, false, false, false, false, false, false, false, false, false] (by kernel_rfl) rfl rfl ⟨(show _ = some _ from by exact Pst.qb BK528.out), (blk_cell BK528.out 3).trans rfl, (blk_cell BK528.out 10).trans rfl, (blk_cell BK528.out 11).trans rfl, ((HB.out.cell (World.block_lt_of_cell? w _ hw531_0)).trans hw531_0), ((HB.out.cell (World.block_lt_of_cell? w _ hw531_1)).trans hw531_1), ((HB.out.cell (World.block_lt_of_cell? w _ hw531_2)).trans hw531_2)⟩ (fun hHeld => ?_); refine with_tabW spec_IdealAt.tab3 spec_IdealAt.bits3 (fun HT_ HW_ => ?_)
    generalize w12.drew = w13 at BK528 HB hx531_0 hx531_1 hx531_2 hHeld ⊢
    refine pure_ (i := 1) (N := some 10) (v := ?_) (a' := ?_) #[false, true, false, false, false, false, false, false, false, false, false] rfl rfl (any_of HT_.out (by kernel_rfl)) (fun _ _ _ h => h) (Or.inl ⟨by rfl, ?_⟩) ?_ ?_
    rotate_left
    ·intro w'
     go_simp
     with_reducible rfl
    rotate_left
    ·simp only [Pst.all]
     rfl
    refine pure_ (i := 3) (N := some 12) (v := ?_) (a' := ?_) #[false, true, false, true, false, false, false, false, false, false, false] rfl rfl (any_of HT_.out (by kernel_rfl)) (fun _ _ _ h => h) (Or.inl ⟨by rfl, ?_⟩) ?_ ?_
    rotate_left
    ·intro w'
     go_simp
     with_reducible rfl
    rotate_left
    ·simp only [Pst.all]
     rfl
    refine pure_ (i := 4) (N := some 13) (v := ?_) (a' := ?_) #[false, true, false, true, true, false, false, false, false, false, false] rfl rfl (any_of HT_.out (by kernel_rfl)) (fun _ _ _ h => h) (Or.inl ⟨by rfl, ?_⟩) ?_ ?_
    rotate_left
    ·intro w'
     go_simp
     with_reducible rfl
    rotate_left
    ·simp only [Pst.all]
     rfl
    refine take_ (i := 0) (N := some 9) (v := ?_) (a' := ?_) #[true, true, false, true, true, false, false, false, false, false, false] rfl rfl (take_ofW HT_.out HW_.out (by kernel_rfl)) (fun _ _ _ h => h) (Or.inl ⟨by rfl, ?_⟩) hHeld ?_ ?_
    rotate_left
    ·rintro w' ⟨s0, s1, s2, s3, s4, s5, s6⟩
     first | (refine (spec_IdealAt.loadWhole 36 _ rfl _ rfl 36 _ _ s0 Tryz.underlying36 rfl (by kernel_rfl)).trans ?_; with_reducible rfl) | (go_simp; with_reducible rfl)
    rotate_left
    ·simp only [Pst.all]
     rfl
    refine take_ (i := 5) (N := some 14) (v := ?_) (a' := ?_) #[true, true, false, true, true, true, false, false, false, false, false] rfl rfl (take_ofW HT_.out HW_.out (by kernel_rfl)) (fun _ _ _ h => h) (Or.inl ⟨by rfl, ?_⟩) hHeld ?_ ?_
    rotate_left
    ·rintro w' ⟨s0, s1, s2, s3, s4, s5, s6⟩
     first | (refine (spec_IdealAt.loadWhole 36 _ rfl _ rfl 36 _ _ s0 Tryz.underlying36 rfl (by kernel_rfl)).trans ?_; with_reducible rfl) | (go_simp; with_reducible rfl)
    rotate_left
    ·simp only [Pst.all]
     rfl
    refine pure_ (i := 6) (N := some 15) (v := ?_) (a' := ?_) #[true, true, false, true, true, true, true, false, false, false, false] rfl rfl (any_of HT_.out (by kernel_rfl)) (fun _ _ _ h => h) (Or.inl ⟨by rfl, ?_⟩) ?_ ?_
    rotate_left
    ·intro w'
     go_simp
     with_reducible rfl
    rotate_left
    ·simp only [Pst.all]
     rfl
    refine pure_ (i := 7) (N := some 16) (v := ?_) (a' := ?_) #[true, true, false, true, true, true, true, true, false, false, false] rfl rfl (any_of HT_.out (by kernel_rfl)) (fun _ _ _ h => h) (Or.inl ⟨by rfl, ?_⟩) ?_ ?_
    rotate_left
    ·intro w'
     go_simp
     with_reducible rfl
    rotate_left
    ·simp only [Pst.all]
     rfl
    refine take_ (i := 8) (N := some 17) (v := ?_) (a' := ?_) #[true, true, false, true, true, true, true, true, true, false, false] rfl rfl (take_ofW HT_.out HW_.out (by kernel_rfl)) (fun _ _ _ h => h) (Or.inl ⟨by rfl, ?_⟩) hHeld ?_ ?_
    rotate_left
    ·rintro w' ⟨s0, s1, s2, s3, s4, s5, s6⟩
     first | (refine (spec_IdealAt.loadWhole 36 _ rfl _ rfl 36 _ _ s0 Tryz.underlying36 rfl (by kernel_rfl)).trans ?_; with_reducible rfl) | (go_simp; with_reducible rfl)
    rotate_left
    ·simp only [Pst.all]
     rfl
    refine one_ (i := 2) (N := some 11) #[true, true, true, true, true, true, true, true, true, false, false] rfl rfl (one_of HT_.out (by kernel_rfl)) (by decide) (fun K hK => ?_)
    refine goes_ Tryz.func14 (by kernel_rfl) rfl #[.agg #[.int .i64 a0_0, .int .i64 a0_1, .int .i64 a0_2, .slice (some ad531) l0_3.length c0_3, .slice A0_4 l0_4.length c0_4, .int .i64 a0_5, .int .i64 a0_6, .slice A0_7 l0_7.length c0_7, .int .i64 a0_8, .int .i64 a0_9, .int .i64 a0_10, .int .i64 a0_11, .slice A0_12 l0_12.length c0_12, .int .i64 a0_13, .int .i64 a0_14, .int .i64 a0_15], .int .i64 a1] (by rfl) rfl rfl Pst.ga ?_
    with_reducible refine (spec_LoadAt.calls k a0_0 a0_1 a0_2 _ _ l0_3 _ _ l0_4 a0_5 a0_6 _ _ l0_7 a0_8 a0_9 a0_10 a0_11 _ _ l0_12 a0_13 a0_14 a0_15 a1 t530 _ ?side1 ?side2 ?side3 ?side4 ?side5 ?side6 ?side7 ?side8 A5.out).mono ?_
    (case side1 => exact Pst.qc (Kd.C_below HR0_3.out HB.out))
    (case side2 => exact HC0_3.out)
    (case side3 => exact Pst.qc (Kd.C_below HR0_4.out HB.out))
    (case side4 => exact HC0_4.out)
    (case side5 => exact Pst.qc (Kd.C_below HR0_7.out HB.out))
    (case side6 => exact HC0_7.out)
    (case side7 => exact Pst.qc (Kd.C_below HR0_12.out HB.out))
    (case side8 => exact HC0_12.out)
    rintro e w14 ⟨rfl, hb⟩
    refine ⟨_, rfl, ?_⟩
    replace BK528 := Pst.A (Pst.kb BK528.out hb)
    replace HB := Pst.A (below_step Pst.bes hb)
    (try clear hb)
    (try clear hb2)
    (try clear hk)
    (try clear hi)
    refine hK.out _ _ ⟨(show _ = some _ from by exact Pst.qb BK528.out), (blk_cell BK528.out 3).trans rfl, (blk_cell BK528.out 10).trans rfl, (blk_cell BK528.out 11).trans rfl, ((HB.out.cell (World.block_lt_of_cell? w _ hw531_0)).trans hw531_0), ((HB.out.cell (World.block_lt_of_cell? w _ hw531_1)).trans hw531_1), ((HB.out.cell (World.block_lt_of_cell? w _ hw531_2)).trans hw531_2)⟩ (fun hHeld => ?_)
    clear hK K
    refine norm_ (a' := ?_) ?_ ?_
    rotate_left
    ·show Act.put _ (some 11) _ = _
     simp only [Pst.all]
     rfl
    refine one_ (i := 9) (N := some 18) #[true, true, true, true, true, true, true, true, true, true, false] rfl rfl (one_of HT_.out (by kernel_rfl)) (by decide) (fun K hK => ?_)
    refine goes_ Tryz.func31 (by kernel_rfl) rfl #[.int .i64 t530, .int .i64 ((rd_T48 l0_3 0).f1)] (by rfl) rfl rfl Pst.ga ?_
    with_reducible refine (spec_CeilDiv.calls t530 ((rd_T48 l0_3 0).f1) t532 _ A7.out).mono ?_
    rintro e w' ⟨rfl, ⟨nd, rfl⟩⟩
    refine ⟨_, rfl, ?_⟩
    refine hK.out _ _ ⟨(show _ = some _ from by exact Pst.qb BK528.out), (blk_cell BK528.out 3).trans rfl, (blk_cell BK528.out 10).trans rfl, (blk_cell BK528.out 11).trans rfl, ((HB.out.cell (World.block_lt_of_cell? w _ hw531_0)).trans hw531_0), ((HB.out.cell (World.block_lt_of_cell? w _ hw531_1)).trans hw531_1), ((HB.out.cell (World.block_lt_of_cell? w _ hw531_2)).trans hw531_2)⟩ (fun hHeld => ?_)
    clear hK K
    refine norm_ (a' := ?_) ?_ ?_
    rotate_left
    ·show Act.put _ (some 18) _ = _
     simp only [Pst.all]
     rfl
    refine pure_ (i := 10) (N := some 5) (v := ?_) (a' := ?_) #[true, true, true, true, true, true, true, true, true, true, true] rfl rfl (any_of HT_.out (by kernel_rfl)) (fun _ _ _ h => h) (Or.inl ⟨by rfl, ?_⟩) ?_ ?_
    rotate_left
    ·intro w'
     go_simp
     with_reducible rfl
    rotate_left
    ·simp only [Pst.all]
     rfl
    refine done_ (done_of HT_.out (by kernel_rfl)) ?_
    have hcz15_3 : w14.cell? ⟨gb528, 3, none⟩ = some (.slice (some ad531) l0_3.length c0_3) := (blk_cell BK528.out 3).trans rfl
    have hcz15_10 : w14.cell? ⟨gb528, 10, none⟩ = some (.int .i64 a0_10) := (blk_cell BK528.out 10).trans rfl
    have hcz15_11 : w14.cell? ⟨gb528, 11, none⟩ = some (.int .i64 a0_11) := (blk_cell BK528.out 11).trans rfl
    try go_wp2_with (first | ((with_reducible refine gate_ (.load 36 (.tmp 2)) rfl ?_); refine wpList_load_row rfl 36 (.tmp 2) rfl gb528 rfl 36 _ _ _ (show _ = some _ from by exact Pst.qb BK528.out) Tryz.underlying36 rfl (by kernel_rfl) ?_) | ((with_reducible refine gate_callee (f := 32) rfl ?_); refine goesL_ (some 28) rfl rfl Tryz.func32 (by kernel_rfl) rfl #[.int .i64 t532, .int .i64 a0_10, .int .i64 a0_11] rfl Pst.ga ?_; (with_reducible refine (spec_l06Cut.calls t532 a0_10 a0_11 t533 _ A8.out).mono ?_); rintro e w' ⟨rfl, ⟨nd, rfl⟩⟩; refine ⟨_, rfl, ?_⟩))
    go_ret
    exact ⟨Pst.e1, Pst.bes⟩
   rw [if_neg c9] at H
   have c9b0 : decide (12 < t533) = false := decide_eq_false c9
   clear c9
   obtain rfl := Option.some.inj H
   go_enter Tryz.func12, Tryz.ntmps12
   try go_wp2_with (first | ((with_reducible refine gate_ (.load 36 (.tmp 2)) rfl ?_); refine wpList_load_row rfl 36 (.tmp 2) rfl gb528 rfl 36 _ _ _ (show _ = some _ from by exact Pst.qb BK528.out) Tryz.underlying36 rfl (by kernel_rfl) ?_) | ((with_reducible refine gate_dst (N := 2) rfl ?_); refine Pst.bx 2 #[.int .i64 a0_0, .int .i64 a0_1, .int .i64 a0_2, .slice A0_3 l0_3.length c0_3, .slice A0_4 l0_4.length c0_4, .int .i64 a0_5, .int .i64 a0_6, .slice A0_7 l0_7.length c0_7, .int .i64 a0_8, .int .i64 a0_9, .int .i64 a0_10, .int .i64 a0_11, .slice A0_12 l0_12.length c0_12, .int .i64 a0_13, .int .i64 a0_14, .int .i64 a0_15] 36 ?_; intro gb528 hg w16 hbox hb; have BK528 := Pst.A hbox; have GW528 := Pst.A (Pst.gs hg : w.heap.size ≤ gb528); have GE528 := Pst.A (Pst.gs hg : w.heap.size ≤ gb528); replace HB := Pst.A (below_step Pst.bel hb); clear hb hbox hg; have hcz17_3 : w16.cell? ⟨gb528, 3, none⟩ = some (.slice A0_3 l0_3.length c0_3) := (blk_cell BK528.out 3).trans rfl; have hcz17_10 : w16.cell? ⟨gb528, 10, none⟩ = some (.int .i64 a0_10) := (blk_cell BK528.out 10).trans rfl; have hcz17_11 : w16.cell? ⟨gb528, 11, none⟩ = some (.int .i64 a0_11) := (blk_cell BK528.out 11).trans rfl) | ((with_reducible refine gate_callee (f := 8) rfl ?_); refine goesL_ (some 7) rfl rfl Tryz.func8 (by kernel_rfl) rfl #[.agg #[.int .i64 a0_0, .int .i64 a0_1, .int .i64 a0_2, .slice A0_3 l0_3.length c0_3, .slice A0_4 l0_4.length c0_4, .int .i64 a0_5, .int .i64 a0_6, .slice A0_7 l0_7.length c0_7, .int .i64 a0_8, .int .i64 a0_9, .int .i64 a0_10, .int .i64 a0_11, .slice A0_12 l0_12.length c0_12, .int .i64 a0_13, .int .i64 a0_14, .int .i64 a0_15]] rfl Pst.ga ?_; (with_reducible refine (spec_WorldOk.calls k a0_0 a0_1 a0_2 _ _ l0_3 _ _ l0_4 a0_5 a0_6 _ _ l0_7 a0_8 a0_9 a0_10 a0_11 _ _ l0_12 a0_13 a0_14 a0_15 true _ ?side1 ?side2 ?side3 ?side4 ?side5 ?side6 ?side7 ?side8 A3.out).mono ?_); (case side1 => exact Pst.qc (Kd.C_below HR0_3.out HB.out)); (case side2 => exact HC0_3.out); (case side3 => exact Pst.qc (Kd.C_below HR0_4.out HB.out)); (case side4 => exact HC0_4.out); (case side5 => exact Pst.qc (Kd.C_below HR0_7.out HB.out)); (case side6 => exact HC0_7.out); (case side7 => exact Pst.qc (Kd.C_below HR0_12.out HB.out)); (case side8 => exact HC0_12.out); rintro e w18 ⟨rfl, hb⟩; refine ⟨_, rfl, ?_⟩; replace BK528 := Pst.A (Pst.kb BK528.out hb); replace HB := Pst.A (below_step Pst.bes hb); (try clear hb); (try clear hb2); (try clear hk); (try clear hi)))
   replace BK528 := Pst.A (blk_drew BK528.out)
   replace HB := Pst.A (below_drew1 HB.out)
   have p531 : 0 ≤ (0 : Int) := (by omega)
   have q531 : 0 < (l0_3.length : Int) := Pst.da
   obtain ⟨ad531, e531, hx531_0, hx531_1, hx531_2⟩ := at_T48 HR0_3.out 0 p531 q531
   have hw531_2 := hx531_2
   (try rw [show ((0 : Int)).toNat = 0 from rfl] at hw531_2)
   (try rw [show 0 * 3 = 0 from rfl] at hw531_2)
   (try rw [Addr.add_zero'] at hw531_2)
   have hw531_1 := hx531_1
   (try rw [show ((0 : Int)).toNat = 0 from rfl] at hw531_1)
   (try rw [show 0 * 3 = 0 from rfl] at hw531_1)
   (try rw [Addr.add_zero'] at hw531_1)
   have hw531_0 := hx531_0
   (try rw [show ((0 : Int)).toNat = 0 from rfl] at hw531_0)
   (try rw [show 0 * 3 = 0 from rfl] at hw531_0)
   (try rw [Addr.add_zero'] at hw531_0)
   cases e531
   have qi531 : (0 < l0_3.length) = True := eq_true (by omega)
   (try rw [show ((0 : Int)).toNat = 0 from rfl] at hx531_0)
   (try rw [show 0 * 3 = 0 from rfl] at hx531_0)
   (try rw [Addr.add_zero'] at hx531_0)
   (try rw [show ((0 : Int)).toNat = 0 from rfl] at hx531_1)
   (try rw [show 0 * 3 = 0 from rfl] at hx531_1)
   (try rw [Addr.add_zero'] at hx531_1)
   (try rw [show ((0 : Int)).toNat = 0 from rfl] at hx531_2)
   (try rw [show 0 * 3 = 0 from rfl] at hx531_2)
   (try rw [Addr.add_zero'] at hx531_2)
   replace hx531_0 := (HB.out.cell (World.block_lt_of_cell? w _ hx531_0)).trans hx531_0
   replace hx531_1 := (HB.out.cell (World.block_lt_of_cell? w _ hx531_1)).trans hx531_1
   replace hx531_2 := (HB.out.cell (World.block_lt_of_cell? w _ hx531_2)).trans hx531_2
   replace p531 := eq_true p531
   replace q531 := eq_true q531
   refine start_ (n := 11) (S := fun w' => w'.heap[gb528]? = some (.cells #[.int .i64 a0_0, .int .i64 a0_1, .int .i64 a0_2, .slice (some ad531) l0_3.length c0_3, .slice A0_4 l0_4.length c0_4, .int .i64 a0_5, .int .i64 a0_6, .slice A0_7 l0_7.length c0_7, .int .i64 a0_8, .int .i64 a0_9, .int .i64 a0_10, .int .i64 a0_11, .slice A0_12 l0_12.length c0_12, .int .i64 a0_13, .int .i64 a0_14, .int .i64 a0_15] 36 (0, 0)) ∧ w'.cell? ⟨gb528, 3, none⟩ = some (.slice (some ad531) l0_3.length c0_3) ∧ w'.cell? ⟨gb528, 10, none⟩ = some (.int .i64 a0_10) ∧ w'.cell? ⟨gb528, 11, none⟩ = some (.int .i64 a0_11) ∧ w'.cell? ad531 = some (.string ((rd_T48 l0_3 0).f0)) ∧ w'.cell? ⟨ad531.block, ad531.off + 1, none⟩ = some (.int .i64 ((rd_T48 l0_3 0).f1)) ∧ w'.cell? ⟨ad531.block, ad531.off + 2, none⟩ = some (.int .i64 ((rd_T48 l0_3 0).f2))) (ds := []) #[false, false, false, false, false, false, false, false, false, false, false] (by kernel_rfl) rfl rfl ⟨(show _ = some _ from by exact Pst.qb BK528.out), (blk_cell BK528.out 3).trans rfl, (blk_cell BK528.out 10).trans rfl, (blk_cell BK528.out 11).trans rfl, ((HB.out.cell (World.block_lt_of_cell? w _ hw531_0)).trans hw531_0), ((HB.out.cell (World.block_lt_of_cell? w _ hw531_1)).trans hw531_1), ((HB.out.cell (World.block_lt_of_cell? w _ hw531_2)).trans hw531_2)⟩ (fun hHeld => ?_); refine with_tabW spec_IdealAt.tab3 spec_IdealAt.bits3 (fun HT_ HW_ => ?_)
   generalize w18.drew = w19 at BK528 HB hx531_0 hx531_1 hx531_2 hHeld ⊢
   refine pure_ (i := 1) (N := some 10) (v := ?_) (a' := ?_) #[false, true, false, false, false, false, false, false, false, false, false] rfl rfl (any_of HT_.out (by kernel_rfl)) (fun _ _ _ h => h) (Or.inl ⟨by rfl, ?_⟩) ?_ ?_
   rotate_left
   ·intro w'
    go_simp
    with_reducible rfl
   rotate_left
   ·simp only [Pst.all]
    rfl
   refine pure_ (i := 3) (N := some 12) (v := ?_) (a' := ?_) #[false, true, false, true, false, false, false, false, false, false, false] rfl rfl (any_of HT_.out (by kernel_rfl)) (fun _ _ _ h => h) (Or.inl ⟨by rfl, ?_⟩) ?_ ?_
   rotate_left
   ·intro w'
    go_simp
    with_reducible rfl
   rotate_left
   ·simp only [Pst.all]
    rfl
   refine pure_ (i := 4) (N := some 13) (v := ?_) (a' := ?_) #[false, true, false, true, true, false, false, false, false, false, false] rfl rfl (any_of HT_.out (by kernel_rfl)) (fun _ _ _ h => h) (Or.inl ⟨by rfl, ?_⟩) ?_ ?_
   rotate_left
   ·intro w'
    go_simp
    with_reducible rfl
   rotate_left
   ·simp only [Pst.all]
    rfl
   refine take_ (i := 0) (N := some 9) (v := ?_) (a' := ?_) #[true, true, false, true, true, false, false, false, false, false, false] rfl rfl (take_ofW HT_.out HW_.out (by kernel_rfl)) (fun _ _ _ h => h) (Or.inl ⟨by rfl, ?_⟩) hHeld ?_ ?_
   rotate_left
   ·rintro w' ⟨s0, s1, s2, s3, s4, s5, s6⟩
    first | (refine (spec_IdealAt.loadWhole 36 _ rfl _ rfl 36 _ _ s0 Tryz.underlying36 rfl (by kernel_rfl)).trans ?_; with_reducible rfl) | (go_simp; with_reducible rfl)
   rotate_left
   ·simp only [Pst.all]
    rfl
   refine take_ (i := 5) (N := some 14) (v := ?_) (a' := ?_) #[true, true, false, true, true, true, false, false, false, false, false] rfl rfl (take_ofW HT_.out HW_.out (by kernel_rfl)) (fun _ _ _ h => h) (Or.inl ⟨by rfl, ?_⟩) hHeld ?_ ?_
   rotate_left
   ·rintro w' ⟨s0, s1, s2, s3, s4, s5, s6⟩
    first | (refine (spec_IdealAt.loadWhole 36 _ rfl _ rfl 36 _ _ s0 Tryz.underlying36 rfl (by kernel_rfl)).trans ?_; with_reducible rfl) | (go_simp; with_reducible rfl)
   rotate_left
   ·simp only [Pst.all]
    rfl
   refine pure_ (i := 6) (N := some 15) (v := ?_) (a' := ?_) #[true, true, false, true, true, true, true, false, false, false, false] rfl rfl (any_of HT_.out (by kernel_rfl)) (fun _ _ _ h => h) (Or.inl ⟨by rfl, ?_⟩) ?_ ?_
   rotate_left
   ·intro w'
    go_simp
    with_reducible rfl
   rotate_left
   ·simp only [Pst.all]
    rfl
   refine pure_ (i := 7) (N := some 16) (v := ?_) (a' := ?_) #[true, true, false, true, true, true, true, true, false, false, false] rfl rfl (any_of HT_.out (by kernel_rfl)) (fun _ _ _ h => h) (Or.inl ⟨by rfl, ?_⟩) ?_ ?_
   rotate_left
   ·intro w'
    go_simp
    with_reducible rfl
   rotate_left
   ·simp only [Pst.all]
    rfl
   refine take_ (i := 8) (N := some 17) (v := ?_) (a' := ?_) #[true, true, false, true, true, true, true, true, true, false, false] rfl rfl (take_ofW HT_.out HW_.out (by kernel_rfl)) (fun _ _ _ h => h) (Or.inl ⟨by rfl, ?_⟩) hHeld ?_ ?_
   rotate_left
   ·rintro w' ⟨s0, s1, s2, s3, s4, s5, s6⟩
    first | (refine (spec_IdealAt.loadWhole 36 _ rfl _ rfl 36 _ _ s0 Tryz.underlying36 rfl (by kernel_rfl)).trans ?_; with_reducible rfl) | (go_simp; with_reducible rfl)
   rotate_left
   ·simp only [Pst.all]
    rfl
   refine one_ (i := 2) (N := some 11) #[true, true, true, true, true, true, true, true, true, false, false] rfl rfl (one_of HT_.out (by kernel_rfl)) (by decide) (fun K hK => ?_)
   refine goes_ Tryz.func14 (by kernel_rfl) rfl #[.agg #[.int .i64 a0_0, .int .i64 a0_1, .int .i64 a0_2, .slice (some ad531) l0_3.length c0_3, .slice A0_4 l0_4.length c0_4, .int .i64 a0_5, .int .i64 a0_6, .slice A0_7 l0_7.length c0_7, .int .i64 a0_8, .int .i64 a0_9, .int .i64 a0_10, .int .i64 a0_11, .slice A0_12 l0_12.length c0_12, .int .i64 a0_13, .int .i64 a0_14, .int .i64 a0_15], .int .i64 a1] (by rfl) rfl rfl Pst.ga ?_
   with_reducible refine (spec_LoadAt.calls k a0_0 a0_1 a0_2 _ _ l0_3 _ _ l0_4 a0_5 a0_6 _ _ l0_7 a0_8 a0_9 a0_10 a0_11 _ _ l0_12 a0_13 a0_14 a0_15 a1 t530 _ ?side1 ?side2 ?side3 ?side4 ?side5 ?side6 ?side7 ?side8 A5.out).mono ?_
   (case side1 => exact Pst.qc (Kd.C_below HR0_3.out HB.out))
   (case side2 => exact HC0_3.out)
   (case side3 => exact Pst.qc (Kd.C_below HR0_4.out HB.out))
   (case side4 => exact HC0_4.out)
   (case side5 => exact Pst.qc (Kd.C_below HR0_7.out HB.out))
   (case side6 => exact HC0_7.out)
   (case side7 => exact Pst.qc (Kd.C_below HR0_12.out HB.out))
   (case side8 => exact HC0_12.out)
   rintro e w20 ⟨rfl, hb⟩
   refine ⟨_, rfl, ?_⟩
   replace BK528 := Pst.A (Pst.kb BK528.out hb)
   replace HB := Pst.A (below_step Pst.bes hb)
   (try clear hb)
   (try clear hb2)
   (try clear hk)
   (try clear hi)
   refine hK.out _ _ ⟨(show _ = some _ from by exact Pst.qb BK528.out), (blk_cell BK528.out 3).trans rfl, (blk_cell BK528.out 10).trans rfl, (blk_cell BK528.out 11).trans rfl, ((HB.out.cell (World.block_lt_of_cell? w _ hw531_0)).trans hw531_0), ((HB.out.cell (World.block_lt_of_cell? w _ hw531_1)).trans hw531_1), ((HB.out.cell (World.block_lt_of_cell? w _ hw531_2)).trans hw531_2)⟩ (fun hHeld => ?_)
   clear hK K
   refine norm_ (a' := ?_) ?_ ?_
   rotate_left
   ·show Act.put _ (some 11) _ = _
    simp only [Pst.all]
    rfl
   refine one_ (i := 9) (N := some 18) #[true, true, true, true, true, true, true, true, true, true, false] rfl rfl (one_of HT_.out (by kernel_rfl)) (by decide) (fun K hK => ?_)
   refine goes_ Tryz.func31 (by kernel_rfl) rfl #[.int .i64 t530, .int .i64 ((rd_T48 l0_3 0).f1)] (by rfl) rfl rfl Pst.ga ?_
   with_reducible refine (spec_CeilDiv.calls t530 ((rd_T48 l0_3 0).f1) t532 _ A7.out).mono ?_
   rintro e w' ⟨rfl, ⟨nd, rfl⟩⟩
   refine ⟨_, rfl, ?_⟩
   refine hK.out _ _ ⟨(show _ = some _ from by exact Pst.qb BK528.out), (blk_cell BK528.out 3).trans rfl, (blk_cell BK528.out 10).trans rfl, (blk_cell BK528.out 11).trans rfl, ((HB.out.cell (World.block_lt_of_cell? w _ hw531_0)).trans hw531_0), ((HB.out.cell (World.block_lt_of_cell? w _ hw531_1)).trans hw531_1), ((HB.out.cell (World.block_lt_of_cell? w _ hw531_2)).trans hw531_2)⟩ (fun hHeld => ?_)
   clear hK K
   refine norm_ (a' := ?_) ?_ ?_
   rotate_left
   ·show Act.put _ (some 18) _ = _
    simp only [Pst.all]
    rfl
   refine pure_ (i := 10) (N := some 5) (v := ?_) (a' := ?_) #[true, true, true, true, true, true, true, true, true, true, true] rfl rfl (any_of HT_.out (by kernel_rfl)) (fun _ _ _ h => h) (Or.inl ⟨by rfl, ?_⟩) ?_ ?_
   rotate_left
   ·intro w'
    go_simp
    with_reducible rfl
   rotate_left
   ·simp only [Pst.all]
    rfl
   refine done_ (done_of HT_.out (by kernel_rfl)) ?_
   have hcz21_3 : w20.cell? ⟨gb528, 3, none⟩ = some (.slice (some ad531) l0_3.length c0_3) := (blk_cell BK528.out 3).trans rfl
   have hcz21_10 : w20.cell? ⟨gb528, 10, none⟩ = some (.int .i64 a0_10) := (blk_cell BK528.out 10).trans rfl
   have hcz21_11 : w20.cell? ⟨gb528, 11, none⟩ = some (.int .i64 a0_11) := (blk_cell BK528.out 11).trans rfl
   try go_wp2_with (first | ((with_reducible refine gate_ (.load 36 (.tmp 2)) rfl ?_); refine wpList_load_row rfl 36 (.tmp 2) rfl gb528 rfl 36 _ _ _ (show _ = some _ from by exact Pst.qb BK528.out) Tryz.underlying36 rfl (by kernel_rfl) ?_) | ((with_reducible refine gate_callee (f := 32) rfl ?_); refine goesL_ (some 28) rfl rfl Tryz.func32 (by kernel_rfl) rfl #[.int .i64 t532, .int .i64 a0_10, .int .i64 a0_11] rfl Pst.ga ?_; (with_reducible refine (spec_l06Cut.calls t532 a0_10 a0_11 t533 _ A8.out).mono ?_); rintro e w' ⟨rfl, ⟨nd, rfl⟩⟩; refine ⟨_, rfl, ?_⟩))
   go_ret
   exact ⟨Pst.e1, Pst.bes⟩
  rw [if_neg c6] at H
  exact absurd H (by simp)
 replace c4 := Bool.eq_false_iff.mpr c4
 subst c4
 rw [if_neg Pst.ft] at H
 obtain rfl := Option.some.inj H
 go_enter Tryz.func12, Tryz.ntmps12
 go_wp2_with (first | ((with_reducible refine gate_ (.load 36 (.tmp 2)) rfl ?_); refine wpList_load_row rfl 36 (.tmp 2) rfl gb528 rfl 36 _ _ _ (show _ = some _ from by exact Pst.qb BK528.out) Tryz.underlying36 rfl (by kernel_rfl) ?_) | ((with_reducible refine gate_dst (N := 2) rfl ?_); refine Pst.bx 2 #[.int .i64 a0_0, .int .i64 a0_1, .int .i64 a0_2, .slice A0_3 l0_3.length c0_3, .slice A0_4 l0_4.length c0_4, .int .i64 a0_5, .int .i64 a0_6, .slice A0_7 l0_7.length c0_7, .int .i64 a0_8, .int .i64 a0_9, .int .i64 a0_10, .int .i64 a0_11, .slice A0_12 l0_12.length c0_12, .int .i64 a0_13, .int .i64 a0_14, .int .i64 a0_15] 36 ?_; intro gb528 hg w22 hbox hb; have BK528 := Pst.A hbox; have GW528 := Pst.A (Pst.gs hg : w.heap.size ≤ gb528); have GE528 := Pst.A (Pst.gs hg : w.heap.size ≤ gb528); replace HB := Pst.A (below_step Pst.bel hb); clear hb hbox hg; have hcz23_3 : w22.cell? ⟨gb528, 3, none⟩ = some (.slice A0_3 l0_3.length c0_3) := (blk_cell BK528.out 3).trans rfl; have hcz23_10 : w22.cell? ⟨gb528, 10, none⟩ = some (.int .i64 a0_10) := (blk_cell BK528.out 10).trans rfl; have hcz23_11 : w22.cell? ⟨gb528, 11, none⟩ = some (.int .i64 a0_11) := (blk_cell BK528.out 11).trans rfl) | ((with_reducible refine gate_callee (f := 8) rfl ?_); refine goesL_ (some 7) rfl rfl Tryz.func8 (by kernel_rfl) rfl #[.agg #[.int .i64 a0_0, .int .i64 a0_1, .int .i64 a0_2, .slice A0_3 l0_3.length c0_3, .slice A0_4 l0_4.length c0_4, .int .i64 a0_5, .int .i64 a0_6, .slice A0_7 l0_7.length c0_7, .int .i64 a0_8, .int .i64 a0_9, .int .i64 a0_10, .int .i64 a0_11, .slice A0_12 l0_12.length c0_12, .int .i64 a0_13, .int .i64 a0_14, .int .i64 a0_15]] rfl Pst.ga ?_; (with_reducible refine (spec_WorldOk.calls k a0_0 a0_1 a0_2 _ _ l0_3 _ _ l0_4 a0_5 a0_6 _ _ l0_7 a0_8 a0_9 a0_10 a0_11 _ _ l0_12 a0_13 a0_14 a0_15 false _ ?side1 ?side2 ?side3 ?side4 ?side5 ?side6 ?side7 ?side8 A3.out).mono ?_); (case side1 => exact Pst.qc (Kd.C_below HR0_3.out HB.out)); (case side2 => exact HC0_3.out); (case side3 => exact Pst.qc (Kd.C_below HR0_4.out HB.out)); (case side4 => exact HC0_4.out); (case side5 => exact Pst.qc (Kd.C_below HR0_7.out HB.out)); (case side6 => exact HC0_7.out); (case side7 => exact Pst.qc (Kd.C_below HR0_12.out HB.out)); (case side8 => exact HC0_12.out); rintro e w24 ⟨rfl, hb⟩; refine ⟨_, rfl, ?_⟩; replace BK528 := Pst.A (Pst.kb BK528.out hb); replace HB := Pst.A (below_step Pst.bes hb); (try clear hb); (try clear hb2); (try clear hk); (try clear hi)))
 go_ret
 exact ⟨Pst.e1, Pst.bes⟩

end Go.Proofs.YtidkiabehmdofaaGreatDoor.PA
