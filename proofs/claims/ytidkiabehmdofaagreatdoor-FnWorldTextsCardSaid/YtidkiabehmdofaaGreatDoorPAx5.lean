/- Functions of the program, of the reference and of the statements: each as a plain Lean function, and a proof that the machine's call answers what that one answers. Written by a program: the kit's print, with contracts of our own for what it does not take. No condition. -/
import Derived.Test.YtidkiabehmdofaaGreatDoorPAx0
import Derived.Test.YtidkiabehmdofaaGreatDoorPAx4
namespace Go.Proofs.YtidkiabehmdofaaGreatDoor.PA
set_option maxHeartbeats 8000000
set_option maxRecDepth 100000
open Go.RowKit Go.Proofs.YtidkiabehmdofaaGreatDoorW.PrintWords Go.Proofs.YtidkiabehmdofaaGreatDoorW.PrintLast Go.Proofs.YtidkiabehmdofaaGreatDoorW.PrintMore
attribute [local go_sem] max2_int min2_int max_two min_two max_three min_three max_four min_four   -- for this text's walks alone
set_option linter.unusedVariables false
set_option linter.unusedSimpArgs false

/-! ### impl_WorldText: function 6 -/
abbrev q0_6 : Array Bool := #[false, false, false, false, false, false, false, false, false, false, false, false, false]
abbrev q1_6 : Array Bool := #[true, false, false, false, false, false, false, false, false, false, false, false, false]
abbrev q2_6 : Array Bool := #[true, false, false, true, false, false, false, false, false, false, false, false, false]
abbrev q3_6 : Array Bool := #[true, false, false, true, false, false, true, false, false, false, false, false, false]
abbrev q4_6 : Array Bool := #[true, true, false, true, false, false, true, false, false, false, false, false, false]
abbrev q5_6 : Array Bool := #[true, true, false, true, true, false, true, false, false, false, false, false, false]
abbrev q6_6 : Array Bool := #[true, true, false, true, true, false, true, true, false, false, false, false, false]
abbrev q7_6 : Array Bool := #[true, true, true, true, true, false, true, true, false, false, false, false, false]
abbrev q8_6 : Array Bool := #[true, true, true, true, true, true, true, true, false, false, false, false, false]
abbrev q9_6 : Array Bool := #[true, true, true, true, true, true, true, true, true, false, false, false, false]
abbrev q10_6 : Array Bool := #[true, true, true, true, true, true, true, true, true, true, false, false, false]
abbrev q11_6 : Array Bool := #[true, true, true, true, true, true, true, true, true, true, true, false, false]
abbrev q12_6 : Array Bool := #[true, true, true, true, true, true, true, true, true, true, true, true, false]
abbrev q13_6 : Array Bool := #[true, true, true, true, true, true, true, true, true, true, true, true, true]
def impl_WorldText.l0 : Nat → ByteArray → List Int → Int → Int → Option (ByteArray)
 | 0, _, _, _, _ => none
 | k + 1, x3, x22, x23, x24 => if x24 < x23 then (if 0 ≤ x24 then (if x24 < (x22.length : Int) then ((impl_MilliText.f k (rd x22 x24)).bind fun t431 => (if 1 + t431.size ≤ 9223372036854775807 then (if x3.size + ((⟨#[32]⟩ : ByteArray) ++ t431).size ≤ 9223372036854775807 then (impl_WorldText.l0 k (x3 ++ ((⟨#[32]⟩ : ByteArray) ++ t431)) x22 x23 (wrap64 (x24 + 1))) else (none)) else (none))) else (none)) else (none)) else (some x3)
def impl_WorldText.f (k : Nat) (a0_0 : Int) (a0_1 : Int) (a0_2 : Int) (l0_3 : List (S48)) (l0_4 : List (S101)) (a0_5 : Int) (a0_6 : Int) (l0_7 : List (S101)) (a0_8 : Int) (a0_9 : Int) (a0_10 : Int) (a0_11 : Int) (l0_12 : List Int) (a0_13 : Int) (a0_14 : Int) (a0_15 : Int) : Option (ByteArray) := (impl_WorldOk.f k a0_0 a0_1 a0_2 l0_3 l0_4 a0_5 a0_6 l0_7 a0_8 a0_9 a0_10 a0_11 l0_12 a0_13 a0_14 a0_15).bind fun t422 => (if t422 = true then ((impl_number.f a0_15).bind fun t423 => ((impl_number.f a0_13).bind fun t424 => ((impl_number.f a0_14).bind fun t425 => ((impl_words.f (([t423, (⟨#[119, 97, 114, 109]⟩ : ByteArray), t424, (⟨#[101, 97, 99, 104]⟩ : ByteArray), t425] : List ByteArray))).bind fun t429 => (if t429.size + 1 ≤ 9223372036854775807 then (impl_WorldText.l0 k (t429 ++ (⟨#[58]⟩ : ByteArray)) l0_12 (l0_12.length : Int) 0) else (none)))))) else (some (⟨#[]⟩ : ByteArray)))
theorem impl_WorldText.mono_l : ∀ k, (∀ y0 y1 y2 y3, LeO (impl_WorldText.l0 k y0 y1 y2 y3) (impl_WorldText.l0 (k + 1) y0 y1 y2 y3))
 | 0 => fun _ _ _ _ r h => by simp [impl_WorldText.l0] at h
 | k + 1 => by
  have ih0 := impl_WorldText.mono_l k
  intro y0 y1 y2 y3
  unfold impl_WorldText.l0
  have m0 := @impl_MilliText.mono
  have m1 := @impl_WorldOk.mono
  exact Pst.mo
theorem impl_WorldText.mono : ∀ a0 a1 a2 a3 a4 a5 a6 a7 a8 a9 a10 a11 a12 a13 a14 a15 k, LeO (impl_WorldText.f k a0 a1 a2 a3 a4 a5 a6 a7 a8 a9 a10 a11 a12 a13 a14 a15) (impl_WorldText.f (k + 1) a0 a1 a2 a3 a4 a5 a6 a7 a8 a9 a10 a11 a12 a13 a14 a15) := by
 intro a0 a1 a2 a3 a4 a5 a6 a7 a8 a9 a10 a11 a12 a13 a14 a15 k
 have ih0 := impl_WorldText.mono_l k
 unfold impl_WorldText.f
 have m0 := @impl_MilliText.mono
 have m1 := @impl_WorldOk.mono
 exact Pst.mo
def impl_WorldText.T3 : Bool × List (List Nat × List Nat) := (true, [([], []), ([0], [0]), ([1], [1]), ([], []), ([3], [3]), ([4, 2], [4]), ([], []), ([6], [6]), ([7, 5], [7]), ([2, 5, 8], [2, 5, 8]), ([9, 8], [9]), ([10], [10]), ([11, 10, 0, 1, 2, 3, 4, 5, 6, 7, 8, 9, 10, 11], [11])])
def impl_WorldText.B3 : List Nat := [0, 1, 3, 0, 8, 31, 0, 64, 255, 511, 1023, 2047, 4095]
theorem impl_WorldText.tab3 : rtab .any (opsOf Tryz.f6 3) = impl_WorldText.T3 := by kernel_rfl
theorem impl_WorldText.bits3 : waitsOk impl_WorldText.T3.2 impl_WorldText.B3 = true := by kernel_rfl
theorem impl_WorldText.calls (k : Nat) (a0_0 : Int) (a0_1 : Int) (a0_2 : Int) (A0_3 : Option Addr) (c0_3 : Nat) (l0_3 : List (S48)) (A0_4 : Option Addr) (c0_4 : Nat) (l0_4 : List (S101)) (a0_5 : Int) (a0_6 : Int) (A0_7 : Option Addr) (c0_7 : Nat) (l0_7 : List (S101)) (a0_8 : Int) (a0_9 : Int) (a0_10 : Int) (a0_11 : Int) (A0_12 : Option Addr) (c0_12 : Nat) (l0_12 : List Int) (a0_13 : Int) (a0_14 : Int) (a0_15 : Int) (r : ByteArray) (w : World) (hr0_3 : Kd.C k48 w A0_3 l0_3.length l0_3) (hc0_3 : l0_3.length ≤ c0_3) (hr0_4 : Kd.C k101 w A0_4 l0_4.length l0_4) (hc0_4 : l0_4.length ≤ c0_4) (hr0_7 : Kd.C k101 w A0_7 l0_7.length l0_7) (hc0_7 : l0_7.length ≤ c0_7) (hr0_12 : Kd.C (Kd.int .i64) w A0_12 l0_12.length l0_12) (hc0_12 : l0_12.length ≤ c0_12) (h : impl_WorldText.f k a0_0 a0_1 a0_2 l0_3 l0_4 a0_5 a0_6 l0_7 a0_8 a0_9 a0_10 a0_11 l0_12 a0_13 a0_14 a0_15 = some r) (tab_ : Tab w := by exact HT.out.on Pst.bel) :
 Calls Tryz.prog 6 #[.agg #[.int .i64 a0_0, .int .i64 a0_1, .int .i64 a0_2, .slice A0_3 l0_3.length c0_3, .slice A0_4 l0_4.length c0_4, .int .i64 a0_5, .int .i64 a0_6, .slice A0_7 l0_7.length c0_7, .int .i64 a0_8, .int .i64 a0_9, .int .i64 a0_10, .int .i64 a0_11, .slice A0_12 l0_12.length c0_12, .int .i64 a0_13, .int .i64 a0_14, .int .i64 a0_15]] w fun e w' => e = .returned (.string r) ∧ Below w.heap.size w w' := by
 have HT := Pst.A tab_
 clear tab_
 have hu36 := Tryz.underlying36
 have HR0_3 := Pst.A hr0_3
 have HC0_3 := Pst.A hc0_3
 clear hr0_3 hc0_3
 have HR0_4 := Pst.A hr0_4
 have HC0_4 := Pst.A hc0_4
 clear hr0_4 hc0_4
 have HR0_7 := Pst.A hr0_7
 have HC0_7 := Pst.A hc0_7
 clear hr0_7 hc0_7
 have HR0_12 := Pst.A hr0_12
 have HC0_12 := Pst.A hc0_12
 clear hr0_12 hc0_12
 have HB := Pst.A (Below.refl w.heap.size w)
 have H : ((impl_WorldOk.f k a0_0 a0_1 a0_2 l0_3 l0_4 a0_5 a0_6 l0_7 a0_8 a0_9 a0_10 a0_11 l0_12 a0_13 a0_14 a0_15).bind fun t422 => (if t422 = true then ((impl_number.f a0_15).bind fun t423 => ((impl_number.f a0_13).bind fun t424 => ((impl_number.f a0_14).bind fun t425 => ((impl_words.f (([t423, (⟨#[119, 97, 114, 109]⟩ : ByteArray), t424, (⟨#[101, 97, 99, 104]⟩ : ByteArray), t425] : List ByteArray))).bind fun t429 => (if t429.size + 1 ≤ 9223372036854775807 then (impl_WorldText.l0 k (t429 ++ (⟨#[58]⟩ : ByteArray)) l0_12 (l0_12.length : Int) 0) else (none)))))) else (some (⟨#[]⟩ : ByteArray)))) = some r := h
 clear h
 obtain ⟨t422, A20, H⟩ := Pst.bd H
 have A2 := Pst.A A20
 clear A20
 by_cases c3 : t422 = true
 ·subst c3
  rw [if_pos rfl] at H
  obtain ⟨t423, A40, H⟩ := Pst.bd H
  have A4 := Pst.A A40
  clear A40
  obtain ⟨t424, A50, H⟩ := Pst.bd H
  have A5 := Pst.A A50
  clear A50
  obtain ⟨t425, A60, H⟩ := Pst.bd H
  have A6 := Pst.A A60
  clear A60
  obtain ⟨y426, hy426⟩ : ∃ y_ : List ByteArray, y_ = (([t423, (⟨#[119, 97, 114, 109]⟩ : ByteArray), t424, (⟨#[101, 97, 99, 104]⟩ : ByteArray), t425] : List ByteArray)) := ⟨_, rfl⟩
  replace H : ((impl_words.f y426).bind fun t429 => (if t429.size + 1 ≤ 9223372036854775807 then (impl_WorldText.l0 k (t429 ++ (⟨#[58]⟩ : ByteArray)) l0_12 (l0_12.length : Int) 0) else (none))) = some r := by first | (rw [hy426]; with_reducible exact H) | (have H2_ := (Option.bind_some _ _).symm.trans H; rw [hy426]; with_reducible exact H2_) | (have H2_ := (Option.bind_some _ _).symm.trans H; with_reducible exact H2_) | with_reducible exact H | (rw [hy426]; exact H) | exact H
  have Ny426 := Pst.A hy426
  clear hy426
  obtain ⟨t429, A70, H⟩ := Pst.bd H
  have A7 := Pst.A A70
  clear A70
  by_cases c8 : t429.size + 1 ≤ 9223372036854775807
  ·rw [if_pos c8] at H
   have c8b0 := eq_true c8
   have c8b1 : decide (t429.size + 1 ≤ 9223372036854775807) = true := decide_eq_true c8
   try have c8b2 : (9223372036854775807 < t429.size + 1) = False := eq_false (Nat.not_lt.2 c8)
   have H' := Pst.A H
   clear H
   go_enter Tryz.func6, Tryz.ntmps6
   try go_wp2_with (first | ((with_reducible refine gate_dst (N := 1) rfl ?_); refine Pst.bx 1 #[.int .i64 a0_0, .int .i64 a0_1, .int .i64 a0_2, .slice A0_3 l0_3.length c0_3, .slice A0_4 l0_4.length c0_4, .int .i64 a0_5, .int .i64 a0_6, .slice A0_7 l0_7.length c0_7, .int .i64 a0_8, .int .i64 a0_9, .int .i64 a0_10, .int .i64 a0_11, .slice A0_12 l0_12.length c0_12, .int .i64 a0_13, .int .i64 a0_14, .int .i64 a0_15] 36 ?_; intro gb421 hg w9 hbox hb; have BK421 := Pst.A hbox; have GW421 := Pst.A (Pst.gs hg : w.heap.size ≤ gb421); have GE421 := Pst.A (Pst.gs hg : w.heap.size ≤ gb421); replace HB := Pst.A (below_step Pst.bel hb); clear hb hbox hg; obtain ⟨hcz10_0, hcz10_1, hcz10_2, hcz10_3, hcz10_4, hcz10_5, hcz10_6, hcz10_7, hcz10_8, hcz10_9, hcz10_10, hcz10_11, hcz10_12, hcz10_13, hcz10_14, hcz10_15⟩ := Pst.c16 BK421.out; obtain ⟨hfz10_0, hfz10_1, hfz10_2, hfz10_3, hfz10_4, hfz10_5, hfz10_6, hfz10_7, hfz10_8, hfz10_9, hfz10_10, hfz10_11, hfz10_12, hfz10_13, hfz10_14, hfz10_15⟩ := Pst.f16 BK421.out) | ((with_reducible refine gate_callee (f := 16) rfl ?_); refine goesL_ (some 7) rfl rfl Tryz.func16 (by kernel_rfl) rfl #[.agg #[.int .i64 a0_0, .int .i64 a0_1, .int .i64 a0_2, .slice A0_3 l0_3.length c0_3, .slice A0_4 l0_4.length c0_4, .int .i64 a0_5, .int .i64 a0_6, .slice A0_7 l0_7.length c0_7, .int .i64 a0_8, .int .i64 a0_9, .int .i64 a0_10, .int .i64 a0_11, .slice A0_12 l0_12.length c0_12, .int .i64 a0_13, .int .i64 a0_14, .int .i64 a0_15]] rfl Pst.ga ?_; (with_reducible refine (impl_WorldOk.calls k a0_0 a0_1 a0_2 _ _ l0_3 _ _ l0_4 a0_5 a0_6 _ _ l0_7 a0_8 a0_9 a0_10 a0_11 _ _ l0_12 a0_13 a0_14 a0_15 true _ ?side1 ?side2 ?side3 ?side4 ?side5 ?side6 ?side7 ?side8 A2.out).mono ?_); (case side1 => exact Pst.qc (Kd.C_below HR0_3.out HB.out)); (case side2 => exact HC0_3.out); (case side3 => exact Pst.qc (Kd.C_below HR0_4.out HB.out)); (case side4 => exact HC0_4.out); (case side5 => exact Pst.qc (Kd.C_below HR0_7.out HB.out)); (case side6 => exact HC0_7.out); (case side7 => exact Pst.qc (Kd.C_below HR0_12.out HB.out)); (case side8 => exact HC0_12.out); rintro e w11 ⟨rfl, hb⟩; refine ⟨_, rfl, ?_⟩; replace BK421 := Pst.A (Pst.kb BK421.out hb); replace HB := Pst.A (below_step Pst.bes hb); (try clear hb); (try clear hb2); (try clear hk); (try clear hi)))
   replace BK421 := Pst.A (blk_drew BK421.out)
   replace HB := Pst.A (below_drew1 HB.out)
   refine start_ (n := 13) (S := fun w' => w'.cell? ⟨gb421, 0, none⟩ = some (.int .i64 a0_0) ∧ w'.cell? ⟨gb421, 1, none⟩ = some (.int .i64 a0_1) ∧ w'.cell? ⟨gb421, 2, none⟩ = some (.int .i64 a0_2) ∧ w'.cell? ⟨gb421, 3, none⟩ = some (.slice A0_3 l0_3.length c0_3) ∧ w'.cell? ⟨gb421, 4, none⟩ = some (.slice A0_4 l0_4.length c0_4) ∧ w'.cell? ⟨gb421, 5, none⟩ = some (.int .i64 a0_5) ∧ w'.cell? ⟨gb421, 6, none⟩ = some (.int .i64 a0_6) ∧ w'.cell? ⟨gb421, 7, none⟩ = some (.slice A0_7 l0_7.length c0_7) ∧ w'.cell? ⟨gb421, 8, none⟩ = some (.int .i64 a0_8) ∧ w'.cell? ⟨gb421, 9, none⟩ = some (.int .i64 a0_9) ∧ w'.cell? ⟨gb421, 10, none⟩ = some (.int .i64 a0_10) ∧ w'.cell? ⟨gb421, 11, none⟩ = some (.int .i64 a0_11) ∧ w'.cell? ⟨gb421, 12, none⟩ = some (.slice A0_12 l0_12.length c0_12) ∧ w'.cell? ⟨gb421, 13, none⟩ = some (.int .i64 a0_13) ∧ w'.cell? ⟨gb421, 14, none⟩ = some (.int .i64 a0_14) ∧ w'.cell? ⟨gb421, 15, none⟩ = some (.int .i64 a0_15)) (ds := []) q0_6 (by kernel_rfl) rfl rfl ⟨(blk_cell BK421.out 0).trans rfl, (blk_cell BK421.out 1).trans rfl, (blk_cell BK421.out 2).trans rfl, (blk_cell BK421.out 3).trans rfl, (blk_cell BK421.out 4).trans rfl, (blk_cell BK421.out 5).trans rfl, (blk_cell BK421.out 6).trans rfl, (blk_cell BK421.out 7).trans rfl, (blk_cell BK421.out 8).trans rfl, (blk_cell BK421.out 9).trans rfl, (blk_cell BK421.out 10).trans rfl, (blk_cell BK421.out 11).trans rfl, (blk_cell BK421.out 12).trans rfl, (blk_cell BK421.out 13).trans rfl, (blk_cell BK421.out 14).trans rfl, (blk_cell BK421.out 15).trans rfl⟩ (fun hHeld => ?_); refine with_tabW impl_WorldText.tab3 impl_WorldText.bits3 (fun HT_ HW_ => ?_)
   generalize w11.drew = w12 at BK421 HB hHeld ⊢
   refine pure_ (i := 0) (N := some 9) (v := ?_) (a' := ?_) q1_6 rfl rfl (any_of HT_.out (by kernel_rfl)) (fun _ _ _ h => h) (Or.inl ⟨by rfl, ?_⟩) ?_ ?_
   rotate_left
   ·intro w'
    go_simp
    with_reducible rfl
   rotate_left
   ·simp only [Pst.all]
    rfl
   refine pure_ (i := 3) (N := some 12) (v := ?_) (a' := ?_) q2_6 rfl rfl (any_of HT_.out (by kernel_rfl)) (fun _ _ _ h => h) (Or.inl ⟨by rfl, ?_⟩) ?_ ?_
   rotate_left
   ·intro w'
    go_simp
    with_reducible rfl
   rotate_left
   ·simp only [Pst.all]
    rfl
   refine pure_ (i := 6) (N := some 15) (v := ?_) (a' := ?_) q3_6 rfl rfl (any_of HT_.out (by kernel_rfl)) (fun _ _ _ h => h) (Or.inl ⟨by rfl, ?_⟩) ?_ ?_
   rotate_left
   ·intro w'
    go_simp
    with_reducible rfl
   rotate_left
   ·simp only [Pst.all]
    rfl
   refine take_ (i := 1) (N := some 10) (v := ?_) (a' := ?_) q4_6 rfl rfl (take_ofW HT_.out HW_.out (by kernel_rfl)) (fun _ _ _ h => h) (Or.inl ⟨by rfl, ?_⟩) hHeld ?_ ?_
   rotate_left
   ·rintro w' ⟨s0, s1, s2, s3, s4, s5, s6, s7, s8, s9, s10, s11, s12, s13, s14, s15⟩
    go_simp
    with_reducible rfl
   rotate_left
   ·simp only [Pst.all]
    rfl
   refine take_ (i := 4) (N := some 13) (v := ?_) (a' := ?_) q5_6 rfl rfl (take_ofW HT_.out HW_.out (by kernel_rfl)) (fun _ _ _ h => h) (Or.inl ⟨by rfl, ?_⟩) hHeld ?_ ?_
   rotate_left
   ·rintro w' ⟨s0, s1, s2, s3, s4, s5, s6, s7, s8, s9, s10, s11, s12, s13, s14, s15⟩
    go_simp
    with_reducible rfl
   rotate_left
   ·simp only [Pst.all]
    rfl
   refine take_ (i := 7) (N := some 16) (v := ?_) (a' := ?_) q6_6 rfl rfl (take_ofW HT_.out HW_.out (by kernel_rfl)) (fun _ _ _ h => h) (Or.inl ⟨by rfl, ?_⟩) hHeld ?_ ?_
   rotate_left
   ·rintro w' ⟨s0, s1, s2, s3, s4, s5, s6, s7, s8, s9, s10, s11, s12, s13, s14, s15⟩
    go_simp
    with_reducible rfl
   rotate_left
   ·simp only [Pst.all]
    rfl
   refine one_ (i := 2) (N := some 11) q7_6 rfl rfl (one_of HT_.out (by kernel_rfl)) (by decide) (fun K hK => ?_)
   refine goes_ Tryz.func18 (by kernel_rfl) rfl #[.int .i64 a0_15] (by rfl) rfl rfl Pst.ga ?_
   with_reducible refine (impl_number.calls a0_15 t423 _ A4.out).mono ?_
   rintro e w13 ⟨rfl, hb⟩
   refine ⟨_, rfl, ?_⟩
   replace BK421 := Pst.A (Pst.kb BK421.out hb)
   replace HB := Pst.A (below_step Pst.bes hb)
   (try clear hb)
   (try clear hb2)
   (try clear hk)
   (try clear hi)
   refine hK.out _ _ ⟨(blk_cell BK421.out 0).trans rfl, (blk_cell BK421.out 1).trans rfl, (blk_cell BK421.out 2).trans rfl, (blk_cell BK421.out 3).trans rfl, (blk_cell BK421.out 4).trans rfl, (blk_cell BK421.out 5).trans rfl, (blk_cell BK421.out 6).trans rfl, (blk_cell BK421.out 7).trans rfl, (blk_cell BK421.out 8).trans rfl, (blk_cell BK421.out 9).trans rfl, (blk_cell BK421.out 10).trans rfl, (blk_cell BK421.out 11).trans rfl, (blk_cell BK421.out 12).trans rfl, (blk_cell BK421.out 13).trans rfl, (blk_cell BK421.out 14).trans rfl, (blk_cell BK421.out 15).trans rfl⟩ (fun hHeld => ?_)
   clear hK K
   refine norm_ (a' := ?_) ?_ ?_
   rotate_left
   ·show Act.put _ (some 11) _ = _
    simp only [Pst.all]
    rfl
   refine one_ (i := 5) (N := some 14) q8_6 rfl rfl (one_of HT_.out (by kernel_rfl)) (by decide) (fun K hK => ?_)
   refine goes_ Tryz.func18 (by kernel_rfl) rfl #[.int .i64 a0_13] (by rfl) rfl rfl Pst.ga ?_
   with_reducible refine (impl_number.calls a0_13 t424 _ A5.out).mono ?_
   rintro e w14 ⟨rfl, hb⟩
   refine ⟨_, rfl, ?_⟩
   replace BK421 := Pst.A (Pst.kb BK421.out hb)
   replace HB := Pst.A (below_step Pst.bes hb)
   (try clear hb)
   (try clear hb2)
   (try clear hk)
   (try clear hi)
   refine hK.out _ _ ⟨(blk_cell BK421.out 0).trans rfl, (blk_cell BK421.out 1).trans rfl, (blk_cell BK421.out 2).trans rfl, (blk_cell BK421.out 3).trans rfl, (blk_cell BK421.out 4).trans rfl, (blk_cell BK421.out 5).trans rfl, (blk_cell BK421.out 6).trans rfl, (blk_cell BK421.out 7).trans rfl, (blk_cell BK421.out 8).trans rfl, (blk_cell BK421.out 9).trans rfl, (blk_cell BK421.out 10).trans rfl, (blk_cell BK421.out 11).trans rfl, (blk_cell BK421.out 12).trans rfl, (blk_cell BK421.out 13).trans rfl, (blk_cell BK421.out 14).trans rfl, (blk_cell BK421.out 15).trans rfl⟩ (fun hHeld => ?_)
   clear hK K
   refine norm_ (a' := ?_) ?_ ?_
   rotate_left
   ·show Act.put _ (some 14) _ = _
    simp only [Pst.all]
    rfl
   refine one_ (i := 8) (N := some 17) q9_6 rfl rfl (one_of HT_.out (by kernel_rfl)) (by decide) (fun K hK => ?_)
   refine goes_ Tryz.func18 (by kernel_rfl) rfl #[.int .i64 a0_14] (by rfl) rfl rfl Pst.ga ?_
   with_reducible refine (impl_number.calls a0_14 t425 _ A6.out).mono ?_
   rintro e w15 ⟨rfl, hb⟩
   refine ⟨_, rfl, ?_⟩
   replace BK421 := Pst.A (Pst.kb BK421.out hb)
   replace HB := Pst.A (below_step Pst.bes hb)
   (try clear hb)
   (try clear hb2)
   (try clear hk)
   (try clear hi)
   refine hK.out _ _ ⟨(blk_cell BK421.out 0).trans rfl, (blk_cell BK421.out 1).trans rfl, (blk_cell BK421.out 2).trans rfl, (blk_cell BK421.out 3).trans rfl, (blk_cell BK421.out 4).trans rfl, (blk_cell BK421.out 5).trans rfl, (blk_cell BK421.out 6).trans rfl, (blk_cell BK421.out 7).trans rfl, (blk_cell BK421.out 8).trans rfl, (blk_cell BK421.out 9).trans rfl, (blk_cell BK421.out 10).trans rfl, (blk_cell BK421.out 11).trans rfl, (blk_cell BK421.out 12).trans rfl, (blk_cell BK421.out 13).trans rfl, (blk_cell BK421.out 14).trans rfl, (blk_cell BK421.out 15).trans rfl⟩ (fun hHeld => ?_)
   clear hK K
   refine norm_ (a' := ?_) ?_ ?_
   rotate_left
   ·show Act.put _ (some 17) _ = _
    simp only [Pst.all]
    rfl
   refine one_ (i := 9) (N := some 18) q10_6 rfl rfl (one_of HT_.out (by kernel_rfl)) (by decide) (fun K hK => ?_)
   refine Kd.R_lit_step Kd.string _ 9 ?hg (N := 18) ?hd (xs := ([t423, (⟨#[119, 97, 114, 109]⟩ : ByteArray), t424, (⟨#[101, 97, 99, 104]⟩ : ByteArray), t425] : List ByteArray)) (inner := [.string t423, .string (⟨#[119, 97, 114, 109]⟩ : ByteArray), .string t424, .string (⟨#[101, 97, 99, 104]⟩ : ByteArray), .string t425]) (ok := fun _ => True) (okp := fun _ => True) ?hr ?hp (fun _ hk => hk) trivial (Below.refl _ _) (Nat.le_refl _) (by simp) ?_; (case hd => rfl); (case hg => rfl); (case hr => exact Pst.gr); (case hp => exact (Reps.one (show Kd.M Kd.string _ _ _ t423 [.string t423] from rfl) (Reps.one (show Kd.M Kd.string _ _ _ (⟨#[119, 97, 114, 109]⟩ : ByteArray) [.string (⟨#[119, 97, 114, 109]⟩ : ByteArray)] from rfl) (Reps.one (show Kd.M Kd.string _ _ _ t424 [.string t424] from rfl) (Reps.one (show Kd.M Kd.string _ _ _ (⟨#[101, 97, 99, 104]⟩ : ByteArray) [.string (⟨#[101, 97, 99, 104]⟩ : ByteArray)] from rfl) (Reps.one (show Kd.M Kd.string _ _ _ t425 [.string t425] from rfl) (Reps.none _ _)))))))
   intro v427 w16 ho17 hb hg_ hnew_
   clear hg_ hnew_
   (first | rw [← Ny426.out] at ho17 | (simp only [Int.reduceToNat] at ho17; rw [← Ny426.out] at ho17))
   have HO428 := Pst.A (Kd.R_lower ho17 (below_size Pst.bes))
   replace BK421 := Pst.A (Pst.kb BK421.out hb)
   replace HB := Pst.A (below_step Pst.bes hb)
   clear hb ho17
   obtain ⟨Ao18, co18, eo18⟩ := Kd.R_slice HO428.out
   (first | subst eo18 | (injection eo18 with f1_ f2_ f3_; have f4_ := f1_.symm; have f5_ := f3_.symm; clear f1_ f2_ f3_; subst f4_; subst f5_))
   refine hK.out _ _ ⟨(blk_cell BK421.out 0).trans rfl, (blk_cell BK421.out 1).trans rfl, (blk_cell BK421.out 2).trans rfl, (blk_cell BK421.out 3).trans rfl, (blk_cell BK421.out 4).trans rfl, (blk_cell BK421.out 5).trans rfl, (blk_cell BK421.out 6).trans rfl, (blk_cell BK421.out 7).trans rfl, (blk_cell BK421.out 8).trans rfl, (blk_cell BK421.out 9).trans rfl, (blk_cell BK421.out 10).trans rfl, (blk_cell BK421.out 11).trans rfl, (blk_cell BK421.out 12).trans rfl, (blk_cell BK421.out 13).trans rfl, (blk_cell BK421.out 14).trans rfl, (blk_cell BK421.out 15).trans rfl⟩ (fun hHeld => ?_)
   clear hK K
   refine norm_ (a' := ?_) ?_ ?_
   rotate_left
   ·show Act.put _ (some 18) _ = _
    simp only [Pst.all]
    rfl
   refine one_ (i := 10) (N := some 19) q11_6 rfl rfl (one_of HT_.out (by kernel_rfl)) (by decide) (fun K hK => ?_)
   refine goes_ Tryz.func17 (by kernel_rfl) rfl #[.slice Ao18 y426.length co18] (by rfl) rfl rfl Pst.ga ?_
   with_reducible refine (impl_words.calls (fun k_ => some k_ = (.slice Ao18 y426.length co18 : Value).ownBlock) (.slice Ao18 y426.length co18) y426 t429 w _ ?side1 ?side2 A7.out).mono ?_
   (case side1 => repeat (first | (with_reducible first | exact HB.out | apply below_alloc | apply pw_below_drewN | apply below_drew1 | refine below_set ?_ GE421.out) | exact HB.out))
   (case side2 => exact Kd.R_tight rfl HO428.out)
   rintro e w19 ⟨rfl, hb, hkp⟩
   refine ⟨_, rfl, ?_⟩
   replace BK421 := Pst.A (blk_kept (Pst.qb BK421.out) hkp (fun hs_ => (fun e_ => (Kd.R_ne HO428.out BK421.out (by decide)) e_) hs_))
   replace HB := Pst.A hb
   clear HO428
   (try clear hb)
   (try clear hkp)
   refine hK.out _ _ ⟨(blk_cell BK421.out 0).trans rfl, (blk_cell BK421.out 1).trans rfl, (blk_cell BK421.out 2).trans rfl, (blk_cell BK421.out 3).trans rfl, (blk_cell BK421.out 4).trans rfl, (blk_cell BK421.out 5).trans rfl, (blk_cell BK421.out 6).trans rfl, (blk_cell BK421.out 7).trans rfl, (blk_cell BK421.out 8).trans rfl, (blk_cell BK421.out 9).trans rfl, (blk_cell BK421.out 10).trans rfl, (blk_cell BK421.out 11).trans rfl, (blk_cell BK421.out 12).trans rfl, (blk_cell BK421.out 13).trans rfl, (blk_cell BK421.out 14).trans rfl, (blk_cell BK421.out 15).trans rfl⟩ (fun hHeld => ?_)
   clear hK K
   refine norm_ (a' := ?_) ?_ ?_
   rotate_left
   ·show Act.put _ (some 19) _ = _
    simp only [Pst.all]
    rfl
   refine pure_ (i := 11) (N := some 20) (v := ?_) (a' := ?_) q12_6 rfl rfl (any_of HT_.out (by kernel_rfl)) (fun _ _ _ h => h) (Or.inl ⟨by rfl, ?_⟩) ?_ ?_
   rotate_left
   ·intro w'
    go_simp
    with_reducible rfl
   rotate_left
   ·simp only [Pst.all]
    rfl
   refine pure_ (i := 12) (N := some 3) (v := ?_) (a' := ?_) q13_6 rfl rfl (any_of HT_.out (by kernel_rfl)) (fun _ _ _ h => h) (Or.inl ⟨by rfl, ?_⟩) ?_ ?_
   rotate_left
   ·intro w'
    go_simp
    with_reducible rfl
   rotate_left
   ·simp only [Pst.all]
    rfl
   refine done_ (done_of HT_.out (by kernel_rfl)) ?_
   obtain ⟨hcz20_0, hcz20_1, hcz20_2, hcz20_3, hcz20_4, hcz20_5, hcz20_6, hcz20_7, hcz20_8, hcz20_9, hcz20_10, hcz20_11, hcz20_12, hcz20_13, hcz20_14, hcz20_15⟩ := Pst.c16 BK421.out
   obtain ⟨hfz20_0, hfz20_1, hfz20_2, hfz20_3, hfz20_4, hfz20_5, hfz20_6, hfz20_7, hfz20_8, hfz20_9, hfz20_10, hfz20_11, hfz20_12, hfz20_13, hfz20_14, hfz20_15⟩ := Pst.f16 BK421.out
   try go_wp2
   go_loopg [3, 24] k (fun kq v3 v24 w' => ∃ (x3_1 : ByteArray) (x24_1 : Int), v3 = .string x3_1 ∧ v24 = .int .i64 x24_1 ∧ Aside0 (impl_WorldText.l0 kq x3_1 l0_12 (l0_12.length : Int) x24_1 = some r) ∧ Aside0 (kq ≤ k) ∧ Aside0 (w'.heap[gb421]? = some (.cells #[.int .i64 a0_0, .int .i64 a0_1, .int .i64 a0_2, (.slice A0_3 l0_3.length c0_3), (.slice A0_4 l0_4.length c0_4), .int .i64 a0_5, .int .i64 a0_6, (.slice A0_7 l0_7.length c0_7), .int .i64 a0_8, .int .i64 a0_9, .int .i64 a0_10, .int .i64 a0_11, (.slice A0_12 l0_12.length c0_12), .int .i64 a0_13, .int .i64 a0_14, .int .i64 a0_15] 36 (0, 0))) ∧ Aside0 (Below w.heap.size w w'))
   case atStart => exact ⟨(t429 ++ (⟨#[58]⟩ : ByteArray)), (0), Pst.e2, Pst.e2, H', ⟨Nat.le_refl _⟩, ⟨by exact Pst.qb BK421.out⟩, ⟨Pst.bes⟩⟩
   clear H'
   try clear c1
   try clear p2
   try clear c3
   try clear c6
   try clear c8
   try clear c8b0
   try clear c8b1
   try clear c8b2
   try clear c16
   try clear c17
   try clear c18
   obtain ⟨x3_1, x24_1, rfl, rfl, HA, HK1, BK421, HB⟩ := hrel
   cases gk with
   | zero => exact absurd HA.out (by simp [impl_WorldText.l0])
   | succ k1 =>
    have H := HA.out
    clear HA
    simp only [impl_WorldText.l0] at H
    by_cases c21 : x24_1 < (l0_12.length : Int)
    ·rw [if_pos c21] at H
     have c21b0 : decide (x24_1 < (l0_12.length : Int)) = true := decide_eq_true c21
     clear c21
     by_cases c22 : 0 ≤ x24_1
     ·rw [if_pos c22] at H
      have c22b0 : decide (0 ≤ x24_1) = true := decide_eq_true c22
      clear c22
      by_cases c23 : x24_1 < (l0_12.length : Int)
      ·rw [if_pos c23] at H
       have c23b0 : decide (x24_1 < (l0_12.length : Int)) = true := decide_eq_true c23
       clear c23
       obtain ⟨t431, A240, H⟩ := Pst.bd H
       have A24 := Pst.A A240
       clear A240
       by_cases c25 : 1 + t431.size ≤ 9223372036854775807
       ·rw [if_pos c25] at H
        have c25b0 := eq_true c25
        have c25b1 : decide (1 + t431.size ≤ 9223372036854775807) = true := decide_eq_true c25
        try have c25b2 : (9223372036854775807 < 1 + t431.size) = False := eq_false (Nat.not_lt.2 c25)
        by_cases c26 : x3_1.size + ((⟨#[32]⟩ : ByteArray) ++ t431).size ≤ 9223372036854775807
        ·rw [if_pos c26] at H
         have c26b0 := eq_true c26
         have c26b1 : decide (x3_1.size + ((⟨#[32]⟩ : ByteArray) ++ t431).size ≤ 9223372036854775807) = true := decide_eq_true c26
         try have c26b2 : (9223372036854775807 < x3_1.size + ((⟨#[32]⟩ : ByteArray) ++ t431).size) = False := eq_false (Nat.not_lt.2 c26)
         have H' := Pst.A H
         clear H
         have p430 : 0 ≤ (x24_1 : Int) := Pst.da
         have q430 : x24_1 < (l0_12.length : Int) := Pst.da
         obtain ⟨ad430, e430, hx430_0⟩ := Kd.at_int HR0_12.out x24_1 p430 q430
         cases e430
         replace hx430_0 := (HB.out.cell (World.block_lt_of_cell? w _ hx430_0)).trans hx430_0
         replace p430 := eq_true p430
         replace q430 := eq_true q430
         go_wp2_with (first | ((with_reducible refine gate_callee (f := 19) rfl ?_); refine goesL_ (some 30) rfl rfl Tryz.func19 (by kernel_rfl) rfl #[.int .i64 (rd l0_12 x24_1)] rfl Pst.ga ?_; (with_reducible refine (impl_MilliText.calls k1 (rd l0_12 x24_1) t431 _ A24.out).mono ?_); rintro e w27 ⟨rfl, hb⟩; refine ⟨_, rfl, ?_⟩; replace BK421 := Pst.A (Pst.kb BK421.out hb); replace HB := Pst.A (below_step Pst.bes hb); (try clear hb); (try clear hb2); (try clear hk); (try clear hi)))
         go_roundg k1
         case measure => have := HK1.out; omega
         case rel => exact ⟨(x3_1 ++ ((⟨#[32]⟩ : ByteArray) ++ t431)), (wrap64 (x24_1 + 1)), Pst.e2, Pst.e2, H', ⟨by have := HK1.out; omega⟩, ⟨by exact Pst.qb BK421.out⟩, ⟨Pst.bes⟩⟩
        rw [if_neg c26] at H
        exact absurd H (by simp)
       rw [if_neg c25] at H
       exact absurd H (by simp)
      rw [if_neg c23] at H
      exact absurd H (by simp)
     rw [if_neg c22] at H
     exact absurd H (by simp)
    rw [if_neg c21] at H
    have c21b0 : decide (x24_1 < (l0_12.length : Int)) = false := decide_eq_false c21
    clear c21
    obtain rfl := Option.some.inj H
    go_wp2
    go_ret
    exact ⟨Pst.e1, Pst.bes⟩
  rw [if_neg c8] at H
  exact absurd H (by simp)
 replace c3 := Bool.eq_false_iff.mpr c3
 subst c3
 rw [if_neg Pst.ft] at H
 obtain rfl := Option.some.inj H
 go_enter Tryz.func6, Tryz.ntmps6
 go_wp2_with (first | ((with_reducible refine gate_dst (N := 1) rfl ?_); refine Pst.bx 1 #[.int .i64 a0_0, .int .i64 a0_1, .int .i64 a0_2, .slice A0_3 l0_3.length c0_3, .slice A0_4 l0_4.length c0_4, .int .i64 a0_5, .int .i64 a0_6, .slice A0_7 l0_7.length c0_7, .int .i64 a0_8, .int .i64 a0_9, .int .i64 a0_10, .int .i64 a0_11, .slice A0_12 l0_12.length c0_12, .int .i64 a0_13, .int .i64 a0_14, .int .i64 a0_15] 36 ?_; intro gb421 hg w28 hbox hb; have BK421 := Pst.A hbox; have GW421 := Pst.A (Pst.gs hg : w.heap.size ≤ gb421); have GE421 := Pst.A (Pst.gs hg : w.heap.size ≤ gb421); replace HB := Pst.A (below_step Pst.bel hb); clear hb hbox hg; obtain ⟨hcz29_0, hcz29_1, hcz29_2, hcz29_3, hcz29_4, hcz29_5, hcz29_6, hcz29_7, hcz29_8, hcz29_9, hcz29_10, hcz29_11, hcz29_12, hcz29_13, hcz29_14, hcz29_15⟩ := Pst.c16 BK421.out; obtain ⟨hfz29_0, hfz29_1, hfz29_2, hfz29_3, hfz29_4, hfz29_5, hfz29_6, hfz29_7, hfz29_8, hfz29_9, hfz29_10, hfz29_11, hfz29_12, hfz29_13, hfz29_14, hfz29_15⟩ := Pst.f16 BK421.out) | ((with_reducible refine gate_callee (f := 16) rfl ?_); refine goesL_ (some 7) rfl rfl Tryz.func16 (by kernel_rfl) rfl #[.agg #[.int .i64 a0_0, .int .i64 a0_1, .int .i64 a0_2, .slice A0_3 l0_3.length c0_3, .slice A0_4 l0_4.length c0_4, .int .i64 a0_5, .int .i64 a0_6, .slice A0_7 l0_7.length c0_7, .int .i64 a0_8, .int .i64 a0_9, .int .i64 a0_10, .int .i64 a0_11, .slice A0_12 l0_12.length c0_12, .int .i64 a0_13, .int .i64 a0_14, .int .i64 a0_15]] rfl Pst.ga ?_; (with_reducible refine (impl_WorldOk.calls k a0_0 a0_1 a0_2 _ _ l0_3 _ _ l0_4 a0_5 a0_6 _ _ l0_7 a0_8 a0_9 a0_10 a0_11 _ _ l0_12 a0_13 a0_14 a0_15 false _ ?side1 ?side2 ?side3 ?side4 ?side5 ?side6 ?side7 ?side8 A2.out).mono ?_); (case side1 => exact Pst.qc (Kd.C_below HR0_3.out HB.out)); (case side2 => exact HC0_3.out); (case side3 => exact Pst.qc (Kd.C_below HR0_4.out HB.out)); (case side4 => exact HC0_4.out); (case side5 => exact Pst.qc (Kd.C_below HR0_7.out HB.out)); (case side6 => exact HC0_7.out); (case side7 => exact Pst.qc (Kd.C_below HR0_12.out HB.out)); (case side8 => exact HC0_12.out); rintro e w30 ⟨rfl, hb⟩; refine ⟨_, rfl, ?_⟩; replace BK421 := Pst.A (Pst.kb BK421.out hb); replace HB := Pst.A (below_step Pst.bes hb); (try clear hb); (try clear hb2); (try clear hk); (try clear hi)))
 go_ret
 exact ⟨Pst.e1, Pst.bes⟩
theorem impl_WorldText.l0.st {x3 : ByteArray} {x22 : List Int} {x23 : Int} {x24 : Int} {r : (ByteArray)} (H : Ev (fun k => if x24 < x23 then (if 0 ≤ x24 then (if x24 < (x22.length : Int) then ((impl_MilliText.f k (rd x22 x24)).bind fun t431 => (if 1 + t431.size ≤ 9223372036854775807 then (if x3.size + ((⟨#[32]⟩ : ByteArray) ++ t431).size ≤ 9223372036854775807 then (impl_WorldText.l0 k (x3 ++ ((⟨#[32]⟩ : ByteArray) ++ t431)) x22 x23 (wrap64 (x24 + 1))) else (none)) else (none))) else (none)) else (none)) else (some x3)) r) : Ev (fun k => impl_WorldText.l0 k x3 x22 x23 x24) r := Ev.step (fun k => impl_WorldText.l0.eq_2 x3 x22 x23 x24 k) H

/-! ### spec_l01In: function 23 -/
def spec_l01In.f (a0 : Int) (a1 : Int) (a2 : Int) : Option (Bool) := if a1 ≤ a0 then (some (decide (a0 ≤ a2))) else (some false)
theorem spec_l01In.calls (a0 : Int) (a1 : Int) (a2 : Int) (r : Bool) (w : World) (h : spec_l01In.f a0 a1 a2 = some r) :
    Calls Tryz.prog 23 #[.int .i64 a0, .int .i64 a1, .int .i64 a2] w fun e w' => e = .returned (.bool r) ∧ Drawn0 w w' := by
 have H : (if a1 ≤ a0 then (some (decide (a0 ≤ a2))) else (some false)) = some r := h
 clear h
 by_cases c4 : a1 ≤ a0
 ·rw [if_pos c4] at H
  have c4b0 : decide (a1 ≤ a0) = true := decide_eq_true c4
  clear c4
  obtain rfl := Option.some.inj H
  go_enter Tryz.func23, Tryz.ntmps23
  go_wp2
  go_ret
  exact ⟨Pst.e2, by repeat (first | exact Drawn0.refl _ | apply Drawn0.step)⟩
 ·rw [if_neg c4] at H
  have c4b0 : decide (a1 ≤ a0) = false := decide_eq_false c4
  clear c4
  obtain rfl := Option.some.inj H
  go_enter Tryz.func23, Tryz.ntmps23
  go_wp2
  go_ret
  exact ⟨Pst.e2, by repeat (first | exact Drawn0.refl _ | apply Drawn0.step)⟩

/-! ### spec_RulesOk: function 41 -/
def spec_RulesOk.f (a0_0 : Int) (a0_1 : Int) (a0_2 : Int) : Option (Bool) := (spec_l01In.f a0_0 0 1000).bind fun t433 => (if t433 = true then ((spec_l01In.f a0_1 0 1000).bind fun t434 => (if t434 = true then ((spec_l01In.f a0_2 0 1000).bind fun t435 => (some t435)) else (some false))) else (some false))
theorem spec_RulesOk.calls (a0_0 : Int) (a0_1 : Int) (a0_2 : Int) (r : Bool) (w : World) (h : spec_RulesOk.f a0_0 a0_1 a0_2 = some r) :
    Calls Tryz.prog 41 #[.agg #[.int .i64 a0_0, .int .i64 a0_1, .int .i64 a0_2]] w fun e w' => e = .returned (.bool r) ∧ Below w.heap.size w w' := by
 have hu25 := Tryz.underlying25
 have HB := Pst.A (Below.refl w.heap.size w)
 have H : ((spec_l01In.f a0_0 0 1000).bind fun t433 => (if t433 = true then ((spec_l01In.f a0_1 0 1000).bind fun t434 => (if t434 = true then ((spec_l01In.f a0_2 0 1000).bind fun t435 => (some t435)) else (some false))) else (some false))) = some r := h
 clear h
 obtain ⟨t433, A20, H⟩ := Pst.bd H
 have A2 := Pst.A A20
 clear A20
 by_cases c3 : t433 = true
 ·subst c3
  rw [if_pos rfl] at H
  obtain ⟨t434, A40, H⟩ := Pst.bd H
  have A4 := Pst.A A40
  clear A40
  by_cases c5 : t434 = true
  ·subst c5
   rw [if_pos rfl] at H
   obtain ⟨t435, A60, H⟩ := Pst.bd H
   have A6 := Pst.A A60
   clear A60
   obtain rfl := Option.some.inj H
   go_enter Tryz.func41, Tryz.ntmps41
   go_wp2_with (first | ((with_reducible refine gate_dst (N := 1) rfl ?_); refine Pst.bx 1 #[.int .i64 a0_0, .int .i64 a0_1, .int .i64 a0_2] 25 ?_; intro gb432 hg w7 hbox hb; have BK432 := Pst.A hbox; have GW432 := Pst.A (Pst.gs hg : w.heap.size ≤ gb432); have GE432 := Pst.A (Pst.gs hg : w.heap.size ≤ gb432); replace HB := Pst.A (below_step Pst.bel hb); clear hb hbox hg; obtain ⟨_,_,_⟩ := Pst.c3 BK432.out; obtain ⟨_,_,_⟩ := Pst.f3 BK432.out) | ((with_reducible refine gate_callee (f := 23) rfl ?_); refine goesL_ (some 5) rfl rfl Tryz.func23 (by kernel_rfl) rfl #[.int .i64 a0_0, .int .i64 0, .int .i64 1000] rfl Pst.ga ?_; (with_reducible refine (spec_l01In.calls a0_0 0 1000 true _ A2.out).mono ?_); rintro e w' ⟨rfl, ⟨nd, rfl⟩⟩; refine ⟨_, rfl, ?_⟩) | (go_at_call 23; (with_reducible refine (spec_l01In.calls a0_1 0 1000 true _ A4.out).mono ?_); rintro e w' ⟨rfl, ⟨nd, rfl⟩⟩) | (go_at_call 23; (with_reducible refine (spec_l01In.calls a0_2 0 1000 t435 _ A6.out).mono ?_); rintro e w' ⟨rfl, ⟨nd, rfl⟩⟩))
   go_ret
   exact ⟨Pst.e1, Pst.bes⟩
  ·replace c5 := Bool.eq_false_iff.mpr c5
   subst c5
   rw [if_neg Pst.ft] at H
   obtain rfl := Option.some.inj H
   go_enter Tryz.func41, Tryz.ntmps41
   go_wp2_with (first | ((with_reducible refine gate_dst (N := 1) rfl ?_); refine Pst.bx 1 #[.int .i64 a0_0, .int .i64 a0_1, .int .i64 a0_2] 25 ?_; intro gb432 hg w9 hbox hb; have BK432 := Pst.A hbox; have GW432 := Pst.A (Pst.gs hg : w.heap.size ≤ gb432); have GE432 := Pst.A (Pst.gs hg : w.heap.size ≤ gb432); replace HB := Pst.A (below_step Pst.bel hb); clear hb hbox hg; obtain ⟨_,_,_⟩ := Pst.c3 BK432.out; obtain ⟨_,_,_⟩ := Pst.f3 BK432.out) | ((with_reducible refine gate_callee (f := 23) rfl ?_); refine goesL_ (some 5) rfl rfl Tryz.func23 (by kernel_rfl) rfl #[.int .i64 a0_0, .int .i64 0, .int .i64 1000] rfl Pst.ga ?_; (with_reducible refine (spec_l01In.calls a0_0 0 1000 true _ A2.out).mono ?_); rintro e w' ⟨rfl, ⟨nd, rfl⟩⟩; refine ⟨_, rfl, ?_⟩) | (go_at_call 23; (with_reducible refine (spec_l01In.calls a0_1 0 1000 false _ A4.out).mono ?_); rintro e w' ⟨rfl, ⟨nd, rfl⟩⟩))
   go_ret
   exact ⟨Pst.e1, Pst.bes⟩
 ·replace c3 := Bool.eq_false_iff.mpr c3
  subst c3
  rw [if_neg Pst.ft] at H
  obtain rfl := Option.some.inj H
  go_enter Tryz.func41, Tryz.ntmps41
  go_wp2_with (first | ((with_reducible refine gate_dst (N := 1) rfl ?_); refine Pst.bx 1 #[.int .i64 a0_0, .int .i64 a0_1, .int .i64 a0_2] 25 ?_; intro gb432 hg w11 hbox hb; have BK432 := Pst.A hbox; have GW432 := Pst.A (Pst.gs hg : w.heap.size ≤ gb432); have GE432 := Pst.A (Pst.gs hg : w.heap.size ≤ gb432); replace HB := Pst.A (below_step Pst.bel hb); clear hb hbox hg; obtain ⟨_,_,_⟩ := Pst.c3 BK432.out; obtain ⟨_,_,_⟩ := Pst.f3 BK432.out) | ((with_reducible refine gate_callee (f := 23) rfl ?_); refine goesL_ (some 5) rfl rfl Tryz.func23 (by kernel_rfl) rfl #[.int .i64 a0_0, .int .i64 0, .int .i64 1000] rfl Pst.ga ?_; (with_reducible refine (spec_l01In.calls a0_0 0 1000 false _ A2.out).mono ?_); rintro e w' ⟨rfl, ⟨nd, rfl⟩⟩; refine ⟨_, rfl, ?_⟩))
  go_ret
  exact ⟨Pst.e1, Pst.bes⟩

/-! ### spec_SideOk: function 68 -/
mutual
def spec_SideOk.j0 : Nat → Bool → List (S101) → Int → Int → Option (Bool)
 | 0, _, _, _, _ => none
 | k + 1, x20, x437000, x437001, x437002 => if x20 = true then (some false) else (spec_SideOk.l0 k 0 x437000 x437001 x437002)
def spec_SideOk.l0 : Nat → Int → List (S101) → Int → Int → Option (Bool)
 | 0, _, _, _, _ => none
 | k + 1, x3, x437000, x437001, x437002 => if x3 < (x437000.length : Int) then (if 0 ≤ x3 then ((spec_l01In.f ((rd_T101 x437000 x3).f0) 0 1).bind fun t441 => (if t441 = true then ((spec_l01In.f ((rd_T101 x437000 x3).f1) 1 1000).bind fun t442 => (if t442 = true then ((spec_l01In.f ((rd_T101 x437000 x3).f2) 1 1000).bind fun t443 => (if t443 = true then (spec_SideOk.l0 k (wrap64 (x3 + 1)) x437000 x437001 x437002) else (some false))) else (some false))) else (some false))) else (none)) else (some true)
end
def spec_SideOk.f (k : Nat) (l0_0 : List (S101)) (a0_1 : Int) (a0_2 : Int) : Option (Bool) := if (l0_0.length : Int) > 3 then (spec_SideOk.j0 k true l0_0 a0_1 a0_2) else ((spec_l01In.f a0_1 0 2).bind fun t437 => (if t437 = true then ((spec_l01In.f a0_2 0 1000).bind fun t438 => (spec_SideOk.j0 k (!t438) l0_0 a0_1 a0_2)) else (spec_SideOk.j0 k true l0_0 a0_1 a0_2)))
theorem spec_SideOk.mono_l : ∀ k, (∀ y0 y1 y2 y3, LeO (spec_SideOk.j0 k y0 y1 y2 y3) (spec_SideOk.j0 (k + 1) y0 y1 y2 y3)) ∧ (∀ y0 y1 y2 y3, LeO (spec_SideOk.l0 k y0 y1 y2 y3) (spec_SideOk.l0 (k + 1) y0 y1 y2 y3))
 | 0 => ⟨fun _ _ _ _ r h => by simp [spec_SideOk.j0] at h, fun _ _ _ _ r h => by simp [spec_SideOk.l0] at h⟩
 | k + 1 => by
  obtain ⟨ih0, ih1⟩ := spec_SideOk.mono_l k
  refine ⟨?_, ?_⟩
  ·intro y0 y1 y2 y3
   unfold spec_SideOk.j0
   exact Pst.mo
  intro y0 y1 y2 y3
  unfold spec_SideOk.l0
  exact Pst.mo
theorem spec_SideOk.mono : ∀ a0 a1 a2 k, LeO (spec_SideOk.f k a0 a1 a2) (spec_SideOk.f (k + 1) a0 a1 a2) := by
 intro a0 a1 a2 k
 obtain ⟨ih0, ih1⟩ := spec_SideOk.mono_l k
 unfold spec_SideOk.f
 exact Pst.mo
theorem spec_SideOk.calls (k : Nat) (A0_0 : Option Addr) (c0_0 : Nat) (l0_0 : List (S101)) (a0_1 : Int) (a0_2 : Int) (r : Bool) (w : World) (hr0_0 : Kd.C k101 w A0_0 l0_0.length l0_0) (hc0_0 : l0_0.length ≤ c0_0) (h : spec_SideOk.f k l0_0 a0_1 a0_2 = some r) :
 Calls Tryz.prog 68 #[.agg #[.slice A0_0 l0_0.length c0_0, .int .i64 a0_1, .int .i64 a0_2]] w fun e w' => e = .returned (.bool r) ∧ Below w.heap.size w w' := by
 have hu29 := Tryz.underlying29
 have hu101 := Tryz.underlying101
 have HR0_0 := Pst.A hr0_0
 have HC0_0 := Pst.A hc0_0
 clear hr0_0 hc0_0
 have HB := Pst.A (Below.refl w.heap.size w)
 have H : (if (l0_0.length : Int) > 3 then (spec_SideOk.j0 k true l0_0 a0_1 a0_2) else ((spec_l01In.f a0_1 0 2).bind fun t437 => (if t437 = true then ((spec_l01In.f a0_2 0 1000).bind fun t438 => (spec_SideOk.j0 k (!t438) l0_0 a0_1 a0_2)) else (spec_SideOk.j0 k true l0_0 a0_1 a0_2)))) = some r := h
 clear h
 have HC2 := Pst.A H
 clear H
 go_enter Tryz.func68, Tryz.ntmps68
 go_upto_region 1 with (first | ((with_reducible refine gate_dst (N := 1) rfl ?_); refine Pst.bx 1 #[.slice A0_0 l0_0.length c0_0, .int .i64 a0_1, .int .i64 a0_2] 29 ?_; intro gb436 hg w3 hbox hb; have BK436 := Pst.A hbox; have GW436 := Pst.A (Pst.gs hg : w.heap.size ≤ gb436); have GE436 := Pst.A (Pst.gs hg : w.heap.size ≤ gb436); replace HB := Pst.A (below_step Pst.bel hb); clear hb hbox hg))
 (try simp only [Act.put, List.setIfInBounds_toArray, List.set_cons_zero, List.set_cons_succ])
 go_cut [20] (fun v20 wc => ∃ (kq : Nat) (x20_1 : Bool), v20 = .bool x20_1 ∧ Aside0 (spec_SideOk.j0 kq x20_1 l0_0 a0_1 a0_2 = some r) ∧ Aside0 (kq ≤ k) ∧ Aside0 (wc.heap[gb436]? = some (.cells #[(.slice A0_0 l0_0.length c0_0), .int .i64 a0_1, .int .i64 a0_2] 29 (0, 0))) ∧ Aside0 (Below w.heap.size w wc))
 case first =>
  have H := HC2.out
  clear HC2
  by_cases c4 : (l0_0.length : Int) > 3
  ·rw [if_pos c4] at H
   have c4b0 : decide (3 < (l0_0.length : Int)) = true := decide_eq_true c4
   have c4b1 : decide (3 < l0_0.length) = true := decide_eq_true (by omega)
   clear c4
   (first | rw [c4b0] | (simp only [i64_w, i32_w]; rw [c4b0]) | skip)
   have H' := Pst.A H
   clear H
   obtain ⟨hcz5_0, hcz5_1, hcz5_2⟩ := Pst.c3 BK436.out
   obtain ⟨hfz5_0, hfz5_1, hfz5_2⟩ := Pst.f3 BK436.out
   go_wp2
   go_meet
   case rel => exact ⟨_, (true), Pst.e2, H', ⟨by first | omega | exact Nat.le_refl _⟩, ⟨by exact Pst.qb BK436.out⟩, ⟨Pst.bes⟩⟩
  rw [if_neg c4] at H
  have c4b0 : decide (3 < (l0_0.length : Int)) = false := decide_eq_false c4
  have c4b1 : decide (3 < l0_0.length) = false := decide_eq_false (by omega)
  clear c4
  (first | rw [c4b0] | (simp only [i64_w, i32_w]; rw [c4b0]) | skip)
  obtain ⟨t437, A60, H⟩ := Pst.bd H
  have A6 := Pst.A A60
  clear A60
  by_cases c7 : t437 = true
  ·subst c7
   rw [if_pos rfl] at H
   obtain ⟨t438, A80, H⟩ := Pst.bd H
   have A8 := Pst.A A80
   clear A80
   have H' := Pst.A H
   clear H
   obtain ⟨hcz9_0, hcz9_1, hcz9_2⟩ := Pst.c3 BK436.out
   obtain ⟨hfz9_0, hfz9_1, hfz9_2⟩ := Pst.f3 BK436.out
   go_wp2_with (first | (go_at_call 23; (with_reducible refine (spec_l01In.calls a0_1 0 2 true _ A6.out).mono ?_); rintro e w' ⟨rfl, ⟨nd, rfl⟩⟩) | (go_at_call 23; (with_reducible refine (spec_l01In.calls a0_2 0 1000 t438 _ A8.out).mono ?_); rintro e w' ⟨rfl, ⟨nd, rfl⟩⟩))
   go_meet
   case rel => exact ⟨_, (!t438), Pst.e2, H', ⟨by first | omega | exact Nat.le_refl _⟩, ⟨by exact Pst.qb BK436.out⟩, ⟨Pst.bes⟩⟩
  replace c7 := Bool.eq_false_iff.mpr c7
  subst c7
  rw [if_neg Pst.ft] at H
  have H' := Pst.A H
  clear H
  obtain ⟨hcz10_0, hcz10_1, hcz10_2⟩ := Pst.c3 BK436.out
  obtain ⟨hfz10_0, hfz10_1, hfz10_2⟩ := Pst.f3 BK436.out
  go_wp2_with (first | (go_at_call 23; (with_reducible refine (spec_l01In.calls a0_1 0 2 false _ A6.out).mono ?_); rintro e w' ⟨rfl, ⟨nd, rfl⟩⟩))
  go_meet
  case rel => exact ⟨_, (true), Pst.e2, H', ⟨by first | omega | exact Nat.le_refl _⟩, ⟨by exact Pst.qb BK436.out⟩, ⟨Pst.bes⟩⟩
 clear HC2
 try clear p2
 try clear c4
 try clear c4b0
 try clear c4b1
 try clear c6
 try clear c7
 obtain ⟨kq, x20_1, rfl, HA, HJ1, BK436, HB⟩ := hcut
 cases kq with
 | zero => exact absurd HA.out (by simp [spec_SideOk.j0])
 | succ kj1 =>
  have H := HA.out
  clear HA
  simp only [spec_SideOk.j0] at H
  by_cases c11 : x20_1 = true
  ·subst c11
   rw [if_pos rfl] at H
   obtain rfl := Option.some.inj H
   go_wp2
   go_ret
   exact ⟨Pst.e1, Pst.bes⟩
  replace c11 := Bool.eq_false_iff.mpr c11
  subst c11
  rw [if_neg Pst.ft] at H
  have H' := Pst.A H
  clear H
  go_wp2
  go_loopg [3] kj1 (fun kq v3 w' => ∃ (x3_2 : Int), v3 = .int .i64 x3_2 ∧ Aside0 (spec_SideOk.l0 kq x3_2 l0_0 a0_1 a0_2 = some r) ∧ Aside0 (kq ≤ kj1) ∧ Aside0 (w'.heap[gb436]? = some (.cells #[(.slice A0_0 l0_0.length c0_0), .int .i64 a0_1, .int .i64 a0_2] 29 (0, 0))) ∧ Aside0 (Below w.heap.size w w'))
  case atStart => exact ⟨(0), Pst.e2, H', ⟨Nat.le_refl _⟩, ⟨by exact Pst.qb BK436.out⟩, ⟨Pst.bes⟩⟩
  clear H'
  try clear c1
  try clear p2
  try clear c4
  try clear c4b0
  try clear c4b1
  try clear c6
  try clear c7
  try clear c11
  try clear p2
  obtain ⟨x3_2, rfl, HA, HK2, BK436, HB⟩ := hrel
  cases gk with
  | zero => exact absurd HA.out (by simp [spec_SideOk.l0])
  | succ k2 =>
   have H := HA.out
   clear HA
   simp only [spec_SideOk.l0] at H
   by_cases c12 : x3_2 < (l0_0.length : Int)
   ·rw [if_pos c12] at H
    have c12b0 : decide (x3_2 < (l0_0.length : Int)) = true := decide_eq_true c12
    clear c12
    by_cases c13 : 0 ≤ x3_2
    ·rw [if_pos c13] at H
     have c13b0 : decide (0 ≤ x3_2) = true := decide_eq_true c13
     clear c13
     obtain ⟨t441, A140, H⟩ := Pst.bd H
     have A14 := Pst.A A140
     clear A140
     by_cases c15 : t441 = true
     ·subst c15
      rw [if_pos rfl] at H
      obtain ⟨t442, A160, H⟩ := Pst.bd H
      have A16 := Pst.A A160
      clear A160
      by_cases c17 : t442 = true
      ·subst c17
       rw [if_pos rfl] at H
       obtain ⟨t443, A180, H⟩ := Pst.bd H
       have A18 := Pst.A A180
       clear A180
       by_cases c19 : t443 = true
       ·subst c19
        rw [if_pos rfl] at H
        have H' := Pst.A H
        clear H
        obtain ⟨hcz20_0, hcz20_1, hcz20_2⟩ := Pst.c3 BK436.out
        obtain ⟨hfz20_0, hfz20_1, hfz20_2⟩ := Pst.f3 BK436.out
        have p439 : 0 ≤ (x3_2 : Int) := Pst.da
        have q439 : x3_2 < (l0_0.length : Int) := Pst.da
        obtain ⟨ad439, e439, hx439_0, hx439_1, hx439_2⟩ := at_T101 HR0_0.out x3_2 p439 q439
        cases e439
        replace hx439_0 := (HB.out.cell (World.block_lt_of_cell? w _ hx439_0)).trans hx439_0
        replace hx439_1 := (HB.out.cell (World.block_lt_of_cell? w _ hx439_1)).trans hx439_1
        replace hx439_2 := (HB.out.cell (World.block_lt_of_cell? w _ hx439_2)).trans hx439_2
        replace p439 := eq_true p439
        replace q439 := eq_true q439
        go_wp2_with (first | ((with_reducible refine gate_dst (N := 4) rfl ?_); refine Pst.bx 4 #[.int .i64 0, .int .i64 0, .int .i64 0] 101 ?_; intro gb440 hg w21 hbox hb; have BK440 := Pst.A hbox; have GW440 := Pst.A (Pst.gs hg : w.heap.size ≤ gb440); have GE440 := Pst.A (Pst.gs hg : w.heap.size ≤ gb440); have NB436_440 := Pst.A (Pst.nl BK436.out hg); have NB440_436 := Pst.A (Pst.nr BK436.out hg); replace BK436 := Pst.A (Pst.kb BK436.out hb); replace HB := Pst.A (below_step Pst.bes hb); clear hb hbox hg; have hnb22 := NB440_436.out; have hnc22 := NB436_440.out; obtain ⟨hcz23_0, hcz23_1, hcz23_2⟩ := Pst.c3 BK440.out; obtain ⟨hfz23_0, hfz23_1, hfz23_2⟩ := Pst.f3 BK440.out) | ((with_reducible refine gate_callee (f := 23) rfl ?_); refine goesL_ (some 35) rfl rfl Tryz.func23 (by kernel_rfl) rfl #[.int .i64 ((rd_T101 l0_0 x3_2).f0), .int .i64 0, .int .i64 1] rfl Pst.ga ?_; (with_reducible refine (spec_l01In.calls ((rd_T101 l0_0 x3_2).f0) 0 1 true _ A14.out).mono ?_); rintro e w' ⟨rfl, ⟨nd, rfl⟩⟩; refine ⟨_, rfl, ?_⟩) | (go_at_call 23; (with_reducible refine (spec_l01In.calls ((rd_T101 l0_0 x3_2).f1) 1 1000 true _ A16.out).mono ?_); rintro e w' ⟨rfl, ⟨nd, rfl⟩⟩) | (go_at_call 23; (with_reducible refine (spec_l01In.calls ((rd_T101 l0_0 x3_2).f2) 1 1000 true _ A18.out).mono ?_); rintro e w' ⟨rfl, ⟨nd, rfl⟩⟩))
        go_roundg k2
        case measure => have := HJ1.out; have := HK2.out; omega
        case rel => exact ⟨(wrap64 (x3_2 + 1)), Pst.e2, H', ⟨by have := HJ1.out; have := HK2.out; omega⟩, ⟨by (with_reducible repeat (first | refine blk_drewN ?_ _ | refine blk_drew ?_ | refine blk_alloc ?_ _)); refine blk_far ?_ NB436_440.out _; (with_reducible repeat (first | refine blk_drewN ?_ _ | refine blk_drew ?_ | refine blk_alloc ?_ _)); refine blk_far ?_ NB436_440.out _; (with_reducible repeat (first | refine blk_drewN ?_ _ | refine blk_drew ?_ | refine blk_alloc ?_ _)); refine blk_far ?_ NB436_440.out _; exact Pst.qb BK436.out⟩, ⟨Pst.bes⟩⟩
       replace c19 := Bool.eq_false_iff.mpr c19
       subst c19
       rw [if_neg Pst.ft] at H
       obtain rfl := Option.some.inj H
       obtain ⟨hcz24_0, hcz24_1, hcz24_2⟩ := Pst.c3 BK436.out
       obtain ⟨hfz24_0, hfz24_1, hfz24_2⟩ := Pst.f3 BK436.out
       have p439 : 0 ≤ (x3_2 : Int) := Pst.da
       have q439 : x3_2 < (l0_0.length : Int) := Pst.da
       obtain ⟨ad439, e439, hx439_0, hx439_1, hx439_2⟩ := at_T101 HR0_0.out x3_2 p439 q439
       cases e439
       replace hx439_0 := (HB.out.cell (World.block_lt_of_cell? w _ hx439_0)).trans hx439_0
       replace hx439_1 := (HB.out.cell (World.block_lt_of_cell? w _ hx439_1)).trans hx439_1
       replace hx439_2 := (HB.out.cell (World.block_lt_of_cell? w _ hx439_2)).trans hx439_2
       replace p439 := eq_true p439
       replace q439 := eq_true q439
       go_wp2_with (first | ((with_reducible refine gate_dst (N := 4) rfl ?_); refine Pst.bx 4 #[.int .i64 0, .int .i64 0, .int .i64 0] 101 ?_; intro gb440 hg w25 hbox hb; have BK440 := Pst.A hbox; have GW440 := Pst.A (Pst.gs hg : w.heap.size ≤ gb440); have GE440 := Pst.A (Pst.gs hg : w.heap.size ≤ gb440); have NB436_440 := Pst.A (Pst.nl BK436.out hg); have NB440_436 := Pst.A (Pst.nr BK436.out hg); replace BK436 := Pst.A (Pst.kb BK436.out hb); replace HB := Pst.A (below_step Pst.bes hb); clear hb hbox hg; have hnb26 := NB440_436.out; have hnc26 := NB436_440.out; obtain ⟨hcz27_0, hcz27_1, hcz27_2⟩ := Pst.c3 BK440.out; obtain ⟨hfz27_0, hfz27_1, hfz27_2⟩ := Pst.f3 BK440.out) | ((with_reducible refine gate_callee (f := 23) rfl ?_); refine goesL_ (some 35) rfl rfl Tryz.func23 (by kernel_rfl) rfl #[.int .i64 ((rd_T101 l0_0 x3_2).f0), .int .i64 0, .int .i64 1] rfl Pst.ga ?_; (with_reducible refine (spec_l01In.calls ((rd_T101 l0_0 x3_2).f0) 0 1 true _ A14.out).mono ?_); rintro e w' ⟨rfl, ⟨nd, rfl⟩⟩; refine ⟨_, rfl, ?_⟩) | (go_at_call 23; (with_reducible refine (spec_l01In.calls ((rd_T101 l0_0 x3_2).f1) 1 1000 true _ A16.out).mono ?_); rintro e w' ⟨rfl, ⟨nd, rfl⟩⟩) | (go_at_call 23; (with_reducible refine (spec_l01In.calls ((rd_T101 l0_0 x3_2).f2) 1 1000 false _ A18.out).mono ?_); rintro e w' ⟨rfl, ⟨nd, rfl⟩⟩))
       go_ret
       exact ⟨Pst.e1, Pst.bes⟩
      replace c17 := Bool.eq_false_iff.mpr c17
      subst c17
      rw [if_neg Pst.ft] at H
      obtain rfl := Option.some.inj H
      obtain ⟨hcz28_0, hcz28_1, hcz28_2⟩ := Pst.c3 BK436.out
      obtain ⟨hfz28_0, hfz28_1, hfz28_2⟩ := Pst.f3 BK436.out
      have p439 : 0 ≤ (x3_2 : Int) := Pst.da
      have q439 : x3_2 < (l0_0.length : Int) := Pst.da
      obtain ⟨ad439, e439, hx439_0, hx439_1, hx439_2⟩ := at_T101 HR0_0.out x3_2 p439 q439
      cases e439
      replace hx439_0 := (HB.out.cell (World.block_lt_of_cell? w _ hx439_0)).trans hx439_0
      replace hx439_1 := (HB.out.cell (World.block_lt_of_cell? w _ hx439_1)).trans hx439_1
      replace hx439_2 := (HB.out.cell (World.block_lt_of_cell? w _ hx439_2)).trans hx439_2
      replace p439 := eq_true p439
      replace q439 := eq_true q439
      go_wp2_with (first | ((with_reducible refine gate_dst (N := 4) rfl ?_); refine Pst.bx 4 #[.int .i64 0, .int .i64 0, .int .i64 0] 101 ?_; intro gb440 hg w29 hbox hb; have BK440 := Pst.A hbox; have GW440 := Pst.A (Pst.gs hg : w.heap.size ≤ gb440); have GE440 := Pst.A (Pst.gs hg : w.heap.size ≤ gb440); have NB436_440 := Pst.A (Pst.nl BK436.out hg); have NB440_436 := Pst.A (Pst.nr BK436.out hg); replace BK436 := Pst.A (Pst.kb BK436.out hb); replace HB := Pst.A (below_step Pst.bes hb); clear hb hbox hg; have hnb30 := NB440_436.out; have hnc30 := NB436_440.out; obtain ⟨hcz31_0, hcz31_1, hcz31_2⟩ := Pst.c3 BK440.out; obtain ⟨hfz31_0, hfz31_1, hfz31_2⟩ := Pst.f3 BK440.out) | ((with_reducible refine gate_callee (f := 23) rfl ?_); refine goesL_ (some 35) rfl rfl Tryz.func23 (by kernel_rfl) rfl #[.int .i64 ((rd_T101 l0_0 x3_2).f0), .int .i64 0, .int .i64 1] rfl Pst.ga ?_; (with_reducible refine (spec_l01In.calls ((rd_T101 l0_0 x3_2).f0) 0 1 true _ A14.out).mono ?_); rintro e w' ⟨rfl, ⟨nd, rfl⟩⟩; refine ⟨_, rfl, ?_⟩) | (go_at_call 23; (with_reducible refine (spec_l01In.calls ((rd_T101 l0_0 x3_2).f1) 1 1000 false _ A16.out).mono ?_); rintro e w' ⟨rfl, ⟨nd, rfl⟩⟩))
      go_ret
      exact ⟨Pst.e1, Pst.bes⟩
     replace c15 := Bool.eq_false_iff.mpr c15
     subst c15
     rw [if_neg Pst.ft] at H
     obtain rfl := Option.some.inj H
     obtain ⟨hcz32_0, hcz32_1, hcz32_2⟩ := Pst.c3 BK436.out
     obtain ⟨hfz32_0, hfz32_1, hfz32_2⟩ := Pst.f3 BK436.out
     have p439 : 0 ≤ (x3_2 : Int) := Pst.da
     have q439 : x3_2 < (l0_0.length : Int) := Pst.da
     obtain ⟨ad439, e439, hx439_0, hx439_1, hx439_2⟩ := at_T101 HR0_0.out x3_2 p439 q439
     cases e439
     replace hx439_0 := (HB.out.cell (World.block_lt_of_cell? w _ hx439_0)).trans hx439_0
     replace hx439_1 := (HB.out.cell (World.block_lt_of_cell? w _ hx439_1)).trans hx439_1
     replace hx439_2 := (HB.out.cell (World.block_lt_of_cell? w _ hx439_2)).trans hx439_2
     replace p439 := eq_true p439
     replace q439 := eq_true q439
     go_wp2_with (first | ((with_reducible refine gate_dst (N := 4) rfl ?_); refine Pst.bx 4 #[.int .i64 0, .int .i64 0, .int .i64 0] 101 ?_; intro gb440 hg w33 hbox hb; have BK440 := Pst.A hbox; have GW440 := Pst.A (Pst.gs hg : w.heap.size ≤ gb440); have GE440 := Pst.A (Pst.gs hg : w.heap.size ≤ gb440); have NB436_440 := Pst.A (Pst.nl BK436.out hg); have NB440_436 := Pst.A (Pst.nr BK436.out hg); replace BK436 := Pst.A (Pst.kb BK436.out hb); replace HB := Pst.A (below_step Pst.bes hb); clear hb hbox hg; have hnb34 := NB440_436.out; have hnc34 := NB436_440.out; obtain ⟨hcz35_0, hcz35_1, hcz35_2⟩ := Pst.c3 BK440.out; obtain ⟨hfz35_0, hfz35_1, hfz35_2⟩ := Pst.f3 BK440.out) | ((with_reducible refine gate_callee (f := 23) rfl ?_); refine goesL_ (some 35) rfl rfl Tryz.func23 (by kernel_rfl) rfl #[.int .i64 ((rd_T101 l0_0 x3_2).f0), .int .i64 0, .int .i64 1] rfl Pst.ga ?_; (with_reducible refine (spec_l01In.calls ((rd_T101 l0_0 x3_2).f0) 0 1 false _ A14.out).mono ?_); rintro e w' ⟨rfl, ⟨nd, rfl⟩⟩; refine ⟨_, rfl, ?_⟩))
     go_ret
     exact ⟨Pst.e1, Pst.bes⟩
    rw [if_neg c13] at H
    exact absurd H (by simp)
   rw [if_neg c12] at H
   have c12b0 : decide (x3_2 < (l0_0.length : Int)) = false := decide_eq_false c12
   clear c12
   obtain rfl := Option.some.inj H
   obtain ⟨hcz36_0, hcz36_1, hcz36_2⟩ := Pst.c3 BK436.out
   obtain ⟨hfz36_0, hfz36_1, hfz36_2⟩ := Pst.f3 BK436.out
   go_wp2
   go_ret
   exact ⟨Pst.e1, Pst.bes⟩
theorem spec_SideOk.j0.st {x20 : Bool} {x437000 : List (S101)} {x437001 : Int} {x437002 : Int} {r : (Bool)} (H : Ev (fun k => if x20 = true then (some false) else (spec_SideOk.l0 k 0 x437000 x437001 x437002)) r) : Ev (fun k => spec_SideOk.j0 k x20 x437000 x437001 x437002) r := Ev.step (fun k => spec_SideOk.j0.eq_2 x20 x437000 x437001 x437002 k) H
theorem spec_SideOk.l0.st {x3 : Int} {x437000 : List (S101)} {x437001 : Int} {x437002 : Int} {r : (Bool)} (H : Ev (fun k => if x3 < (x437000.length : Int) then (if 0 ≤ x3 then ((spec_l01In.f ((rd_T101 x437000 x3).f0) 0 1).bind fun t441 => (if t441 = true then ((spec_l01In.f ((rd_T101 x437000 x3).f1) 1 1000).bind fun t442 => (if t442 = true then ((spec_l01In.f ((rd_T101 x437000 x3).f2) 1 1000).bind fun t443 => (if t443 = true then (spec_SideOk.l0 k (wrap64 (x3 + 1)) x437000 x437001 x437002) else (some false))) else (some false))) else (some false))) else (none)) else (some true)) r) : Ev (fun k => spec_SideOk.l0 k x3 x437000 x437001 x437002) r := Ev.step (fun k => spec_SideOk.l0.eq_2 x3 x437000 x437001 x437002 k) H

/-! ### spec_BehaveOk: function 42 -/
def spec_BehaveOk.f (k : Nat) (l0_0 : List (S101)) (a0_1 : Int) (a0_2 : Int) (l0_3 : List (S101)) (a0_4 : Int) (a0_5 : Int) (a0_6 : Int) (a0_7 : Int) : Option (Bool) := (spec_SideOk.f k l0_0 a0_1 a0_2).bind fun t445 => (if t445 = true then ((spec_SideOk.f k l0_3 a0_4 a0_5).bind fun t446 => (if t446 = true then ((spec_l01In.f a0_7 0 1000).bind fun t447 => (if t447 = true then ((spec_l01In.f a0_6 0 a0_7).bind fun t448 => (some t448)) else (some false))) else (some false))) else (some false))
theorem spec_BehaveOk.mono : ∀ a0 a1 a2 a3 a4 a5 a6 a7 k, LeO (spec_BehaveOk.f k a0 a1 a2 a3 a4 a5 a6 a7) (spec_BehaveOk.f (k + 1) a0 a1 a2 a3 a4 a5 a6 a7) := by
 intro a0 a1 a2 a3 a4 a5 a6 a7 k
 unfold spec_BehaveOk.f
 have m0 := @spec_SideOk.mono
 exact Pst.mo
theorem spec_BehaveOk.calls (k : Nat) (A0_0 : Option Addr) (c0_0 : Nat) (l0_0 : List (S101)) (a0_1 : Int) (a0_2 : Int) (A0_3 : Option Addr) (c0_3 : Nat) (l0_3 : List (S101)) (a0_4 : Int) (a0_5 : Int) (a0_6 : Int) (a0_7 : Int) (r : Bool) (w : World) (hr0_0 : Kd.C k101 w A0_0 l0_0.length l0_0) (hc0_0 : l0_0.length ≤ c0_0) (hr0_3 : Kd.C k101 w A0_3 l0_3.length l0_3) (hc0_3 : l0_3.length ≤ c0_3) (h : spec_BehaveOk.f k l0_0 a0_1 a0_2 l0_3 a0_4 a0_5 a0_6 a0_7 = some r) :
    Calls Tryz.prog 42 #[.agg #[.slice A0_0 l0_0.length c0_0, .int .i64 a0_1, .int .i64 a0_2, .slice A0_3 l0_3.length c0_3, .int .i64 a0_4, .int .i64 a0_5, .int .i64 a0_6, .int .i64 a0_7]] w fun e w' => e = .returned (.bool r) ∧ Below w.heap.size w w' := by
 have hu31 := Tryz.underlying31
 have hu29 := Tryz.underlying29
 have HR0_0 := Pst.A hr0_0
 have HC0_0 := Pst.A hc0_0
 clear hr0_0 hc0_0
 have HR0_3 := Pst.A hr0_3
 have HC0_3 := Pst.A hc0_3
 clear hr0_3 hc0_3
 have HB := Pst.A (Below.refl w.heap.size w)
 have H : ((spec_SideOk.f k l0_0 a0_1 a0_2).bind fun t445 => (if t445 = true then ((spec_SideOk.f k l0_3 a0_4 a0_5).bind fun t446 => (if t446 = true then ((spec_l01In.f a0_7 0 1000).bind fun t447 => (if t447 = true then ((spec_l01In.f a0_6 0 a0_7).bind fun t448 => (some t448)) else (some false))) else (some false))) else (some false))) = some r := h
 clear h
 obtain ⟨t445, A20, H⟩ := Pst.bd H
 have A2 := Pst.A A20
 clear A20
 by_cases c3 : t445 = true
 ·subst c3
  rw [if_pos rfl] at H
  obtain ⟨t446, A40, H⟩ := Pst.bd H
  have A4 := Pst.A A40
  clear A40
  by_cases c5 : t446 = true
  ·subst c5
   rw [if_pos rfl] at H
   obtain ⟨t447, A60, H⟩ := Pst.bd H
   have A6 := Pst.A A60
   clear A60
   by_cases c7 : t447 = true
   ·subst c7
    rw [if_pos rfl] at H
    obtain ⟨t448, A80, H⟩ := Pst.bd H
    have A8 := Pst.A A80
    clear A80
    obtain rfl := Option.some.inj H
    go_enter Tryz.func42, Tryz.ntmps42
    go_wp2_with (first | ((with_reducible refine gate_dst (N := 1) rfl ?_); refine Pst.bx 1 #[.slice A0_0 l0_0.length c0_0, .int .i64 a0_1, .int .i64 a0_2, .slice A0_3 l0_3.length c0_3, .int .i64 a0_4, .int .i64 a0_5, .int .i64 a0_6, .int .i64 a0_7] 31 ?_; intro gb444 hg w9 hbox hb; have BK444 := Pst.A hbox; have GW444 := Pst.A (Pst.gs hg : w.heap.size ≤ gb444); have GE444 := Pst.A (Pst.gs hg : w.heap.size ≤ gb444); replace HB := Pst.A (below_step Pst.bel hb); clear hb hbox hg; obtain ⟨_,_,_,_,_,_,_,_⟩ := Pst.c8 BK444.out; obtain ⟨_,_,_,_,_,_,_,_⟩ := Pst.f8 BK444.out) | ((with_reducible refine gate_callee (f := 68) rfl ?_); refine goesL_ (some 5) rfl rfl Tryz.func68 (by kernel_rfl) rfl #[.agg #[.slice A0_0 l0_0.length c0_0, .int .i64 a0_1, .int .i64 a0_2]] rfl Pst.ga ?_; (with_reducible refine (spec_SideOk.calls k _ _ l0_0 a0_1 a0_2 true _ ?side1 ?side2 A2.out).mono ?_); (case side1 => exact Pst.qc (Kd.C_below HR0_0.out HB.out)); (case side2 => exact HC0_0.out); rintro e w11 ⟨rfl, hb⟩; refine ⟨_, rfl, ?_⟩; replace BK444 := Pst.A (Pst.kb BK444.out hb); replace HB := Pst.A (below_step Pst.bes hb); (try clear hb); (try clear hb2); (try clear hk); (try clear hi); obtain ⟨_,_,_,_,_,_,_,_⟩ := Pst.c8 BK444.out; obtain ⟨_,_,_,_,_,_,_,_⟩ := Pst.f8 BK444.out) | (go_at_call 68; (with_reducible refine (spec_SideOk.calls k _ _ l0_3 a0_4 a0_5 true _ ?side1 ?side2 A4.out).mono ?_); (case side1 => exact Pst.qc (Kd.C_below HR0_3.out HB.out)); (case side2 => exact HC0_3.out); rintro e w13 ⟨rfl, hb⟩; replace BK444 := Pst.A (Pst.kb BK444.out hb); replace HB := Pst.A (below_step Pst.bes hb); (try clear hb); (try clear hb2); (try clear hk); (try clear hi); obtain ⟨_,_,_,_,_,_,_,_⟩ := Pst.c8 BK444.out; obtain ⟨_,_,_,_,_,_,_,_⟩ := Pst.f8 BK444.out) | (go_at_call 23; (with_reducible refine (spec_l01In.calls a0_7 0 1000 true _ A6.out).mono ?_); rintro e w' ⟨rfl, ⟨nd, rfl⟩⟩) | (go_at_call 23; (with_reducible refine (spec_l01In.calls a0_6 0 a0_7 t448 _ A8.out).mono ?_); rintro e w' ⟨rfl, ⟨nd, rfl⟩⟩))
    go_ret
    exact ⟨Pst.e1, Pst.bes⟩
   ·replace c7 := Bool.eq_false_iff.mpr c7
    subst c7
    rw [if_neg Pst.ft] at H
    obtain rfl := Option.some.inj H
    go_enter Tryz.func42, Tryz.ntmps42
    go_wp2_with (first | ((with_reducible refine gate_dst (N := 1) rfl ?_); refine Pst.bx 1 #[.slice A0_0 l0_0.length c0_0, .int .i64 a0_1, .int .i64 a0_2, .slice A0_3 l0_3.length c0_3, .int .i64 a0_4, .int .i64 a0_5, .int .i64 a0_6, .int .i64 a0_7] 31 ?_; intro gb444 hg w15 hbox hb; have BK444 := Pst.A hbox; have GW444 := Pst.A (Pst.gs hg : w.heap.size ≤ gb444); have GE444 := Pst.A (Pst.gs hg : w.heap.size ≤ gb444); replace HB := Pst.A (below_step Pst.bel hb); clear hb hbox hg; obtain ⟨_,_,_,_,_,_,_,_⟩ := Pst.c8 BK444.out; obtain ⟨_,_,_,_,_,_,_,_⟩ := Pst.f8 BK444.out) | ((with_reducible refine gate_callee (f := 68) rfl ?_); refine goesL_ (some 5) rfl rfl Tryz.func68 (by kernel_rfl) rfl #[.agg #[.slice A0_0 l0_0.length c0_0, .int .i64 a0_1, .int .i64 a0_2]] rfl Pst.ga ?_; (with_reducible refine (spec_SideOk.calls k _ _ l0_0 a0_1 a0_2 true _ ?side1 ?side2 A2.out).mono ?_); (case side1 => exact Pst.qc (Kd.C_below HR0_0.out HB.out)); (case side2 => exact HC0_0.out); rintro e w17 ⟨rfl, hb⟩; refine ⟨_, rfl, ?_⟩; replace BK444 := Pst.A (Pst.kb BK444.out hb); replace HB := Pst.A (below_step Pst.bes hb); (try clear hb); (try clear hb2); (try clear hk); (try clear hi); obtain ⟨_,_,_,_,_,_,_,_⟩ := Pst.c8 BK444.out; obtain ⟨_,_,_,_,_,_,_,_⟩ := Pst.f8 BK444.out) | (go_at_call 68; (with_reducible refine (spec_SideOk.calls k _ _ l0_3 a0_4 a0_5 true _ ?side1 ?side2 A4.out).mono ?_); (case side1 => exact Pst.qc (Kd.C_below HR0_3.out HB.out)); (case side2 => exact HC0_3.out); rintro e w19 ⟨rfl, hb⟩; replace BK444 := Pst.A (Pst.kb BK444.out hb); replace HB := Pst.A (below_step Pst.bes hb); (try clear hb); (try clear hb2); (try clear hk); (try clear hi); obtain ⟨_,_,_,_,_,_,_,_⟩ := Pst.c8 BK444.out; obtain ⟨_,_,_,_,_,_,_,_⟩ := Pst.f8 BK444.out) | (go_at_call 23; (with_reducible refine (spec_l01In.calls a0_7 0 1000 false _ A6.out).mono ?_); rintro e w' ⟨rfl, ⟨nd, rfl⟩⟩))
    go_ret
    exact ⟨Pst.e1, Pst.bes⟩
  ·replace c5 := Bool.eq_false_iff.mpr c5
   subst c5
   rw [if_neg Pst.ft] at H
   obtain rfl := Option.some.inj H
   go_enter Tryz.func42, Tryz.ntmps42
   go_wp2_with (first | ((with_reducible refine gate_dst (N := 1) rfl ?_); refine Pst.bx 1 #[.slice A0_0 l0_0.length c0_0, .int .i64 a0_1, .int .i64 a0_2, .slice A0_3 l0_3.length c0_3, .int .i64 a0_4, .int .i64 a0_5, .int .i64 a0_6, .int .i64 a0_7] 31 ?_; intro gb444 hg w21 hbox hb; have BK444 := Pst.A hbox; have GW444 := Pst.A (Pst.gs hg : w.heap.size ≤ gb444); have GE444 := Pst.A (Pst.gs hg : w.heap.size ≤ gb444); replace HB := Pst.A (below_step Pst.bel hb); clear hb hbox hg; obtain ⟨_,_,_,_,_,_,_,_⟩ := Pst.c8 BK444.out; obtain ⟨_,_,_,_,_,_,_,_⟩ := Pst.f8 BK444.out) | ((with_reducible refine gate_callee (f := 68) rfl ?_); refine goesL_ (some 5) rfl rfl Tryz.func68 (by kernel_rfl) rfl #[.agg #[.slice A0_0 l0_0.length c0_0, .int .i64 a0_1, .int .i64 a0_2]] rfl Pst.ga ?_; (with_reducible refine (spec_SideOk.calls k _ _ l0_0 a0_1 a0_2 true _ ?side1 ?side2 A2.out).mono ?_); (case side1 => exact Pst.qc (Kd.C_below HR0_0.out HB.out)); (case side2 => exact HC0_0.out); rintro e w23 ⟨rfl, hb⟩; refine ⟨_, rfl, ?_⟩; replace BK444 := Pst.A (Pst.kb BK444.out hb); replace HB := Pst.A (below_step Pst.bes hb); (try clear hb); (try clear hb2); (try clear hk); (try clear hi); obtain ⟨_,_,_,_,_,_,_,_⟩ := Pst.c8 BK444.out; obtain ⟨_,_,_,_,_,_,_,_⟩ := Pst.f8 BK444.out) | (go_at_call 68; (with_reducible refine (spec_SideOk.calls k _ _ l0_3 a0_4 a0_5 false _ ?side1 ?side2 A4.out).mono ?_); (case side1 => exact Pst.qc (Kd.C_below HR0_3.out HB.out)); (case side2 => exact HC0_3.out); rintro e w25 ⟨rfl, hb⟩; replace BK444 := Pst.A (Pst.kb BK444.out hb); replace HB := Pst.A (below_step Pst.bes hb); (try clear hb); (try clear hb2); (try clear hk); (try clear hi)))
   go_ret
   exact ⟨Pst.e1, Pst.bes⟩
 ·replace c3 := Bool.eq_false_iff.mpr c3
  subst c3
  rw [if_neg Pst.ft] at H
  obtain rfl := Option.some.inj H
  go_enter Tryz.func42, Tryz.ntmps42
  go_wp2_with (first | ((with_reducible refine gate_dst (N := 1) rfl ?_); refine Pst.bx 1 #[.slice A0_0 l0_0.length c0_0, .int .i64 a0_1, .int .i64 a0_2, .slice A0_3 l0_3.length c0_3, .int .i64 a0_4, .int .i64 a0_5, .int .i64 a0_6, .int .i64 a0_7] 31 ?_; intro gb444 hg w26 hbox hb; have BK444 := Pst.A hbox; have GW444 := Pst.A (Pst.gs hg : w.heap.size ≤ gb444); have GE444 := Pst.A (Pst.gs hg : w.heap.size ≤ gb444); replace HB := Pst.A (below_step Pst.bel hb); clear hb hbox hg; obtain ⟨_,_,_,_,_,_,_,_⟩ := Pst.c8 BK444.out; obtain ⟨_,_,_,_,_,_,_,_⟩ := Pst.f8 BK444.out) | ((with_reducible refine gate_callee (f := 68) rfl ?_); refine goesL_ (some 5) rfl rfl Tryz.func68 (by kernel_rfl) rfl #[.agg #[.slice A0_0 l0_0.length c0_0, .int .i64 a0_1, .int .i64 a0_2]] rfl Pst.ga ?_; (with_reducible refine (spec_SideOk.calls k _ _ l0_0 a0_1 a0_2 false _ ?side1 ?side2 A2.out).mono ?_); (case side1 => exact Pst.qc (Kd.C_below HR0_0.out HB.out)); (case side2 => exact HC0_0.out); rintro e w28 ⟨rfl, hb⟩; refine ⟨_, rfl, ?_⟩; replace BK444 := Pst.A (Pst.kb BK444.out hb); replace HB := Pst.A (below_step Pst.bes hb); (try clear hb); (try clear hb2); (try clear hk); (try clear hi)))
  go_ret
  exact ⟨Pst.e1, Pst.bes⟩

/-! ### spec_NameOk: function 69 -/
def spec_NameOk.l0 : Nat → ByteArray → Int → Option (Bool)
 | 0, _, _ => none
 | k + 1, x0, x3 => if x3 < (x0.size : Int) then (if 0 ≤ x3 then (if (bt x0 x3) < 97 then (if (bt x0 x3) < 48 then (some false) else (if (bt x0 x3) > 57 then (some false) else (spec_NameOk.l0 k x0 (wrap64 (x3 + 1))))) else (if (bt x0 x3) > 122 then (if (bt x0 x3) < 48 then (some false) else (if (bt x0 x3) > 57 then (some false) else (spec_NameOk.l0 k x0 (wrap64 (x3 + 1))))) else (spec_NameOk.l0 k x0 (wrap64 (x3 + 1))))) else (none)) else (some true)
def spec_NameOk.f (k : Nat) (a0 : ByteArray) : Option (Bool) := (spec_l01In.f (a0.size : Int) 1 12).bind fun t449 => (if t449 = true then (spec_NameOk.l0 k a0 0) else (some false))
theorem spec_NameOk.mono_l : ∀ k, (∀ y0 y1, LeO (spec_NameOk.l0 k y0 y1) (spec_NameOk.l0 (k + 1) y0 y1))
 | 0 => fun _ _ r h => by simp [spec_NameOk.l0] at h
 | k + 1 => by
  have ih0 := spec_NameOk.mono_l k
  ·intro y0 y1
   unfold spec_NameOk.l0
   exact Pst.mo
theorem spec_NameOk.mono : ∀ a0 k, LeO (spec_NameOk.f k a0) (spec_NameOk.f (k + 1) a0) := by
 intro a0 k
 have ih0 := spec_NameOk.mono_l k
 unfold spec_NameOk.f
 exact Pst.mo
theorem spec_NameOk.calls (k : Nat) (a0 : ByteArray) (r : Bool) (w : World) (h : spec_NameOk.f k a0 = some r) :
    Calls Tryz.prog 69 #[.string a0] w fun e w' => e = .returned (.bool r) ∧ Drawn0 w w' := by
 have H : ((spec_l01In.f (a0.size : Int) 1 12).bind fun t449 => (if t449 = true then (spec_NameOk.l0 k a0 0) else (some false))) = some r := h
 clear h
 obtain ⟨t449, A20, H⟩ := Pst.bd H
 have A2 := Pst.A A20
 clear A20
 by_cases c3 : t449 = true
 ·subst c3
  rw [if_pos rfl] at H
  have H' := Pst.A H
  clear H
  go_enter Tryz.func69, Tryz.ntmps69
  go_wp2_with (first | ((with_reducible refine gate_callee (f := 23) rfl ?_); refine goesL_ (some 7) rfl rfl Tryz.func23 (by kernel_rfl) rfl #[.int .i64 (a0.size : Int), .int .i64 1, .int .i64 12] rfl Pst.ga ?_; (with_reducible refine (spec_l01In.calls (a0.size : Int) 1 12 true _ A2.out).mono ?_); rintro e w' ⟨rfl, ⟨nd, rfl⟩⟩; refine ⟨_, rfl, ?_⟩))
  go_loopg [3] k (fun kq v3 w' => ∃ (x3_1 : Int), v3 = .int .i64 x3_1 ∧ Aside0 (spec_NameOk.l0 kq a0 x3_1 = some r) ∧ Aside0 (kq ≤ k) ∧ Drawn0 w w')
  case atStart => exact ⟨(0), Pst.e2, H', ⟨Nat.le_refl _⟩, by repeat (first | exact Drawn0.refl _ | apply Drawn0.step)⟩
  clear H'
  try clear c2
  try clear p2
  try clear c3
  obtain ⟨x3_1, rfl, HA, HK1, ⟨m1, rfl⟩⟩ := hrel
  cases gk with
  | zero => exact absurd HA.out (by simp [spec_NameOk.l0])
  | succ k1 =>
   have H := HA.out
   clear HA
   simp only [spec_NameOk.l0] at H
   by_cases c4 : x3_1 < (a0.size : Int)
   ·rw [if_pos c4] at H
    have c4b0 : decide (x3_1 < (a0.size : Int)) = true := decide_eq_true c4
    clear c4
    by_cases c5 : 0 ≤ x3_1
    ·rw [if_pos c5] at H
     have c5b0 : decide (0 ≤ x3_1) = true := decide_eq_true c5
     clear c5
     by_cases c7 : (bt a0 x3_1) < 97
     ·rw [if_pos c7] at H
      have c7b0 : decide ((bt a0 x3_1) < 97) = true := decide_eq_true c7
      clear c7
      by_cases c8 : (bt a0 x3_1) < 48
      ·rw [if_pos c8] at H
       have c8b0 : decide ((bt a0 x3_1) < 48) = true := decide_eq_true c8
       clear c8
       obtain rfl := Option.some.inj H
       have p6 : 0 ≤ (x3_1 : Int) := Pst.da
       have q6 : x3_1 < (a0.size : Int) := Pst.da
       have hx6 := bt_at a0 x3_1
       replace p6 := eq_true p6
       replace q6 := eq_true q6
       go_wp2
       go_ret
       exact ⟨Pst.e2, by repeat (first | exact Drawn0.refl _ | apply Drawn0.step)⟩
      ·rw [if_neg c8] at H
       have c8b0 : decide ((bt a0 x3_1) < 48) = false := decide_eq_false c8
       clear c8
       by_cases c9 : (bt a0 x3_1) > 57
       ·rw [if_pos c9] at H
        have c9b0 : decide (57 < (bt a0 x3_1)) = true := decide_eq_true c9
        clear c9
        obtain rfl := Option.some.inj H
        have p6 : 0 ≤ (x3_1 : Int) := Pst.da
        have q6 : x3_1 < (a0.size : Int) := Pst.da
        have hx6 := bt_at a0 x3_1
        replace p6 := eq_true p6
        replace q6 := eq_true q6
        go_wp2
        go_ret
        exact ⟨Pst.e2, by repeat (first | exact Drawn0.refl _ | apply Drawn0.step)⟩
       ·rw [if_neg c9] at H
        have c9b0 : decide (57 < (bt a0 x3_1)) = false := decide_eq_false c9
        clear c9
        have H' := Pst.A H
        clear H
        have p6 : 0 ≤ (x3_1 : Int) := Pst.da
        have q6 : x3_1 < (a0.size : Int) := Pst.da
        have hx6 := bt_at a0 x3_1
        replace p6 := eq_true p6
        replace q6 := eq_true q6
        go_wp2
        go_roundg k1
        case measure => have := HK1.out; omega
        case rel => exact ⟨(wrap64 (x3_1 + 1)), Pst.e2, H', ⟨by have := HK1.out; omega⟩, by repeat (first | exact Drawn0.refl _ | apply Drawn0.step)⟩
     ·rw [if_neg c7] at H
      have c7b0 : decide ((bt a0 x3_1) < 97) = false := decide_eq_false c7
      clear c7
      by_cases c10 : (bt a0 x3_1) > 122
      ·rw [if_pos c10] at H
       have c10b0 : decide (122 < (bt a0 x3_1)) = true := decide_eq_true c10
       clear c10
       by_cases c11 : (bt a0 x3_1) < 48
       ·rw [if_pos c11] at H
        have c11b0 : decide ((bt a0 x3_1) < 48) = true := decide_eq_true c11
        clear c11
        obtain rfl := Option.some.inj H
        have p6 : 0 ≤ (x3_1 : Int) := Pst.da
        have q6 : x3_1 < (a0.size : Int) := Pst.da
        have hx6 := bt_at a0 x3_1
        replace p6 := eq_true p6
        replace q6 := eq_true q6
        go_wp2
        go_ret
        exact ⟨Pst.e2, by repeat (first | exact Drawn0.refl _ | apply Drawn0.step)⟩
       ·rw [if_neg c11] at H
        have c11b0 : decide ((bt a0 x3_1) < 48) = false := decide_eq_false c11
        clear c11
        by_cases c12 : (bt a0 x3_1) > 57
        ·rw [if_pos c12] at H
         have c12b0 : decide (57 < (bt a0 x3_1)) = true := decide_eq_true c12
         clear c12
         obtain rfl := Option.some.inj H
         have p6 : 0 ≤ (x3_1 : Int) := Pst.da
         have q6 : x3_1 < (a0.size : Int) := Pst.da
         have hx6 := bt_at a0 x3_1
         replace p6 := eq_true p6
         replace q6 := eq_true q6
         go_wp2
         go_ret
         exact ⟨Pst.e2, by repeat (first | exact Drawn0.refl _ | apply Drawn0.step)⟩
        ·rw [if_neg c12] at H
         have c12b0 : decide (57 < (bt a0 x3_1)) = false := decide_eq_false c12
         clear c12
         have H' := Pst.A H
         clear H
         have p6 : 0 ≤ (x3_1 : Int) := Pst.da
         have q6 : x3_1 < (a0.size : Int) := Pst.da
         have hx6 := bt_at a0 x3_1
         replace p6 := eq_true p6
         replace q6 := eq_true q6
         go_wp2
         go_roundg k1
         case measure => have := HK1.out; omega
         case rel => exact ⟨(wrap64 (x3_1 + 1)), Pst.e2, H', ⟨by have := HK1.out; omega⟩, by repeat (first | exact Drawn0.refl _ | apply Drawn0.step)⟩
      ·rw [if_neg c10] at H
       have c10b0 : decide (122 < (bt a0 x3_1)) = false := decide_eq_false c10
       clear c10
       have H' := Pst.A H
       clear H
       have p6 : 0 ≤ (x3_1 : Int) := Pst.da
       have q6 : x3_1 < (a0.size : Int) := Pst.da
       have hx6 := bt_at a0 x3_1
       replace p6 := eq_true p6
       replace q6 := eq_true q6
       go_wp2
       go_roundg k1
       case measure => have := HK1.out; omega
       case rel => exact ⟨(wrap64 (x3_1 + 1)), Pst.e2, H', ⟨by have := HK1.out; omega⟩, by repeat (first | exact Drawn0.refl _ | apply Drawn0.step)⟩
    ·rw [if_neg c5] at H
     exact absurd H (by simp)
   ·rw [if_neg c4] at H
    have c4b0 : decide (x3_1 < (a0.size : Int)) = false := decide_eq_false c4
    clear c4
    obtain rfl := Option.some.inj H
    go_wp2
    go_ret
    exact ⟨Pst.e2, by repeat (first | exact Drawn0.refl _ | apply Drawn0.step)⟩
 ·replace c3 := Bool.eq_false_iff.mpr c3
  subst c3
  rw [if_neg Pst.ft] at H
  obtain rfl := Option.some.inj H
  go_enter Tryz.func69, Tryz.ntmps69
  go_wp2_with (first | ((with_reducible refine gate_callee (f := 23) rfl ?_); refine goesL_ (some 7) rfl rfl Tryz.func23 (by kernel_rfl) rfl #[.int .i64 (a0.size : Int), .int .i64 1, .int .i64 12] rfl Pst.ga ?_; (with_reducible refine (spec_l01In.calls (a0.size : Int) 1 12 false _ A2.out).mono ?_); rintro e w' ⟨rfl, ⟨nd, rfl⟩⟩; refine ⟨_, rfl, ?_⟩))
  go_ret
  exact ⟨Pst.e2, by repeat (first | exact Drawn0.refl _ | apply Drawn0.step)⟩
theorem spec_NameOk.l0.st {x0 : ByteArray} {x3 : Int} {r : (Bool)} (H : Ev (fun k => if x3 < (x0.size : Int) then (if 0 ≤ x3 then (if (bt x0 x3) < 97 then (if (bt x0 x3) < 48 then (some false) else (if (bt x0 x3) > 57 then (some false) else (spec_NameOk.l0 k x0 (wrap64 (x3 + 1))))) else (if (bt x0 x3) > 122 then (if (bt x0 x3) < 48 then (some false) else (if (bt x0 x3) > 57 then (some false) else (spec_NameOk.l0 k x0 (wrap64 (x3 + 1))))) else (spec_NameOk.l0 k x0 (wrap64 (x3 + 1))))) else (none)) else (some true)) r) : Ev (fun k => spec_NameOk.l0 k x0 x3) r := Ev.step (fun k => spec_NameOk.l0.eq_2 x0 x3 k) H

/-! ### spec_GoalOk: function 43 -/
def spec_GoalOk.f (k : Nat) (a0_0 : ByteArray) (a0_1 : Int) (a0_2 : Int) : Option (Bool) := (spec_NameOk.f k a0_0).bind fun t451 => (if t451 = true then ((spec_l01In.f a0_1 1 1000000).bind fun t452 => (if t452 = true then ((spec_l01In.f a0_2 0 1000).bind fun t453 => (some t453)) else (some false))) else (some false))
theorem spec_GoalOk.mono : ∀ a0 a1 a2 k, LeO (spec_GoalOk.f k a0 a1 a2) (spec_GoalOk.f (k + 1) a0 a1 a2) := by
 intro a0 a1 a2 k
 unfold spec_GoalOk.f
 have m0 := @spec_NameOk.mono
 exact Pst.mo
theorem spec_GoalOk.calls (k : Nat) (a0_0 : ByteArray) (a0_1 : Int) (a0_2 : Int) (r : Bool) (w : World) (h : spec_GoalOk.f k a0_0 a0_1 a0_2 = some r) :
    Calls Tryz.prog 43 #[.agg #[.string a0_0, .int .i64 a0_1, .int .i64 a0_2]] w fun e w' => e = .returned (.bool r) ∧ Below w.heap.size w w' := by
 have hu48 := Tryz.underlying48
 have HB := Pst.A (Below.refl w.heap.size w)
 have H : ((spec_NameOk.f k a0_0).bind fun t451 => (if t451 = true then ((spec_l01In.f a0_1 1 1000000).bind fun t452 => (if t452 = true then ((spec_l01In.f a0_2 0 1000).bind fun t453 => (some t453)) else (some false))) else (some false))) = some r := h
 clear h
 obtain ⟨t451, A20, H⟩ := Pst.bd H
 have A2 := Pst.A A20
 clear A20
 by_cases c3 : t451 = true
 ·subst c3
  rw [if_pos rfl] at H
  obtain ⟨t452, A40, H⟩ := Pst.bd H
  have A4 := Pst.A A40
  clear A40
  by_cases c5 : t452 = true
  ·subst c5
   rw [if_pos rfl] at H
   obtain ⟨t453, A60, H⟩ := Pst.bd H
   have A6 := Pst.A A60
   clear A60
   obtain rfl := Option.some.inj H
   go_enter Tryz.func43, Tryz.ntmps43
   go_wp2_with (first | ((with_reducible refine gate_dst (N := 1) rfl ?_); refine Pst.bx 1 #[.string a0_0, .int .i64 a0_1, .int .i64 a0_2] 48 ?_; intro gb450 hg w7 hbox hb; have BK450 := Pst.A hbox; have GW450 := Pst.A (Pst.gs hg : w.heap.size ≤ gb450); have GE450 := Pst.A (Pst.gs hg : w.heap.size ≤ gb450); replace HB := Pst.A (below_step Pst.bel hb); clear hb hbox hg; obtain ⟨_,_,_⟩ := Pst.c3 BK450.out; obtain ⟨_,_,_⟩ := Pst.f3 BK450.out) | ((with_reducible refine gate_callee (f := 69) rfl ?_); refine goesL_ (some 5) rfl rfl Tryz.func69 (by kernel_rfl) rfl #[.string a0_0] rfl Pst.ga ?_; (with_reducible refine (spec_NameOk.calls k a0_0 true _ A2.out).mono ?_); rintro e w' ⟨rfl, ⟨nd, rfl⟩⟩; refine ⟨_, rfl, ?_⟩) | (go_at_call 23; (with_reducible refine (spec_l01In.calls a0_1 1 1000000 true _ A4.out).mono ?_); rintro e w' ⟨rfl, ⟨nd, rfl⟩⟩) | (go_at_call 23; (with_reducible refine (spec_l01In.calls a0_2 0 1000 t453 _ A6.out).mono ?_); rintro e w' ⟨rfl, ⟨nd, rfl⟩⟩))
   go_ret
   exact ⟨Pst.e1, Pst.bes⟩
  ·replace c5 := Bool.eq_false_iff.mpr c5
   subst c5
   rw [if_neg Pst.ft] at H
   obtain rfl := Option.some.inj H
   go_enter Tryz.func43, Tryz.ntmps43
   go_wp2_with (first | ((with_reducible refine gate_dst (N := 1) rfl ?_); refine Pst.bx 1 #[.string a0_0, .int .i64 a0_1, .int .i64 a0_2] 48 ?_; intro gb450 hg w9 hbox hb; have BK450 := Pst.A hbox; have GW450 := Pst.A (Pst.gs hg : w.heap.size ≤ gb450); have GE450 := Pst.A (Pst.gs hg : w.heap.size ≤ gb450); replace HB := Pst.A (below_step Pst.bel hb); clear hb hbox hg; obtain ⟨_,_,_⟩ := Pst.c3 BK450.out; obtain ⟨_,_,_⟩ := Pst.f3 BK450.out) | ((with_reducible refine gate_callee (f := 69) rfl ?_); refine goesL_ (some 5) rfl rfl Tryz.func69 (by kernel_rfl) rfl #[.string a0_0] rfl Pst.ga ?_; (with_reducible refine (spec_NameOk.calls k a0_0 true _ A2.out).mono ?_); rintro e w' ⟨rfl, ⟨nd, rfl⟩⟩; refine ⟨_, rfl, ?_⟩) | (go_at_call 23; (with_reducible refine (spec_l01In.calls a0_1 1 1000000 false _ A4.out).mono ?_); rintro e w' ⟨rfl, ⟨nd, rfl⟩⟩))
   go_ret
   exact ⟨Pst.e1, Pst.bes⟩
 ·replace c3 := Bool.eq_false_iff.mpr c3
  subst c3
  rw [if_neg Pst.ft] at H
  obtain rfl := Option.some.inj H
  go_enter Tryz.func43, Tryz.ntmps43
  go_wp2_with (first | ((with_reducible refine gate_dst (N := 1) rfl ?_); refine Pst.bx 1 #[.string a0_0, .int .i64 a0_1, .int .i64 a0_2] 48 ?_; intro gb450 hg w11 hbox hb; have BK450 := Pst.A hbox; have GW450 := Pst.A (Pst.gs hg : w.heap.size ≤ gb450); have GE450 := Pst.A (Pst.gs hg : w.heap.size ≤ gb450); replace HB := Pst.A (below_step Pst.bel hb); clear hb hbox hg; obtain ⟨_,_,_⟩ := Pst.c3 BK450.out; obtain ⟨_,_,_⟩ := Pst.f3 BK450.out) | ((with_reducible refine gate_callee (f := 69) rfl ?_); refine goesL_ (some 5) rfl rfl Tryz.func69 (by kernel_rfl) rfl #[.string a0_0] rfl Pst.ga ?_; (with_reducible refine (spec_NameOk.calls k a0_0 false _ A2.out).mono ?_); rintro e w' ⟨rfl, ⟨nd, rfl⟩⟩; refine ⟨_, rfl, ?_⟩))
  go_ret
  exact ⟨Pst.e1, Pst.bes⟩

/-! ### spec_SetupOk: function 22 -/
mutual
def spec_SetupOk.j0 : Nat → Bool → Int → Int → Int → List (S48) → List (S101) → Int → Int → List (S101) → Int → Int → Int → Int → Option (Bool)
 | 0, _, _, _, _, _, _, _, _, _, _, _, _, _ => none
 | k + 1, x21, x455000, x455001, x455002, x455003, x455004, x455005, x455006, x455007, x455008, x455009, x455010, x455011 => if x21 = true then (some false) else (spec_SetupOk.l0 k 0 x455000 x455001 x455002 x455003 x455004 x455005 x455006 x455007 x455008 x455009 x455010 x455011)
def spec_SetupOk.l0 : Nat → Int → Int → Int → Int → List (S48) → List (S101) → Int → Int → List (S101) → Int → Int → Int → Int → Option (Bool)
 | 0, _, _, _, _, _, _, _, _, _, _, _, _, _ => none
 | k + 1, x3, x455000, x455001, x455002, x455003, x455004, x455005, x455006, x455007, x455008, x455009, x455010, x455011 => if x3 < (x455003.length : Int) then (if 0 ≤ x3 then ((spec_GoalOk.f k ((rd_T48 x455003 x3).f0) ((rd_T48 x455003 x3).f1) ((rd_T48 x455003 x3).f2)).bind fun t459 => (if t459 = true then (spec_SetupOk.l1 k x3 0 x455000 x455001 x455002 x455003 x455004 x455005 x455006 x455007 x455008 x455009 x455010 x455011) else (some false))) else (none)) else (some true)
def spec_SetupOk.l1 : Nat → Int → Int → Int → Int → Int → List (S48) → List (S101) → Int → Int → List (S101) → Int → Int → Int → Int → Option (Bool)
 | 0, _, _, _, _, _, _, _, _, _, _, _, _, _, _ => none
 | k + 1, x3, x4, x455000, x455001, x455002, x455003, x455004, x455005, x455006, x455007, x455008, x455009, x455010, x455011 => if x4 < x3 then (if 0 ≤ x4 then (if x4 < (x455003.length : Int) then (if 0 ≤ x3 then (if x3 < (x455003.length : Int) then (if ((rd_T48 x455003 x4).f0).toList = ((rd_T48 x455003 x3).f0).toList then (some false) else (spec_SetupOk.l1 k x3 (wrap64 (x4 + 1)) x455000 x455001 x455002 x455003 x455004 x455005 x455006 x455007 x455008 x455009 x455010 x455011)) else (none)) else (none)) else (none)) else (none)) else (spec_SetupOk.l0 k (wrap64 (x3 + 1)) x455000 x455001 x455002 x455003 x455004 x455005 x455006 x455007 x455008 x455009 x455010 x455011)
end
def spec_SetupOk.f (k : Nat) (a0_0 : Int) (a0_1 : Int) (a0_2 : Int) (l0_3 : List (S48)) (l0_4 : List (S101)) (a0_5 : Int) (a0_6 : Int) (l0_7 : List (S101)) (a0_8 : Int) (a0_9 : Int) (a0_10 : Int) (a0_11 : Int) : Option (Bool) := (spec_RulesOk.f a0_0 a0_1 a0_2).bind fun t455 => (if t455 = true then ((spec_BehaveOk.f k l0_4 a0_5 a0_6 l0_7 a0_8 a0_9 a0_10 a0_11).bind fun t456 => (if t456 = true then ((spec_l01In.f (l0_3.length : Int) 1 3).bind fun t457 => (spec_SetupOk.j0 k (!t457) a0_0 a0_1 a0_2 l0_3 l0_4 a0_5 a0_6 l0_7 a0_8 a0_9 a0_10 a0_11)) else (spec_SetupOk.j0 k true a0_0 a0_1 a0_2 l0_3 l0_4 a0_5 a0_6 l0_7 a0_8 a0_9 a0_10 a0_11))) else (spec_SetupOk.j0 k true a0_0 a0_1 a0_2 l0_3 l0_4 a0_5 a0_6 l0_7 a0_8 a0_9 a0_10 a0_11))
theorem spec_SetupOk.mono_l : ∀ k, (∀ y0 y1 y2 y3 y4 y5 y6 y7 y8 y9 y10 y11 y12, LeO (spec_SetupOk.j0 k y0 y1 y2 y3 y4 y5 y6 y7 y8 y9 y10 y11 y12) (spec_SetupOk.j0 (k + 1) y0 y1 y2 y3 y4 y5 y6 y7 y8 y9 y10 y11 y12)) ∧ (∀ y0 y1 y2 y3 y4 y5 y6 y7 y8 y9 y10 y11 y12, LeO (spec_SetupOk.l0 k y0 y1 y2 y3 y4 y5 y6 y7 y8 y9 y10 y11 y12) (spec_SetupOk.l0 (k + 1) y0 y1 y2 y3 y4 y5 y6 y7 y8 y9 y10 y11 y12)) ∧ (∀ y0 y1 y2 y3 y4 y5 y6 y7 y8 y9 y10 y11 y12 y13, LeO (spec_SetupOk.l1 k y0 y1 y2 y3 y4 y5 y6 y7 y8 y9 y10 y11 y12 y13) (spec_SetupOk.l1 (k + 1) y0 y1 y2 y3 y4 y5 y6 y7 y8 y9 y10 y11 y12 y13))
 | 0 => ⟨fun _ _ _ _ _ _ _ _ _ _ _ _ _ r h => by simp [spec_SetupOk.j0] at h, fun _ _ _ _ _ _ _ _ _ _ _ _ _ r h => by simp [spec_SetupOk.l0] at h, fun _ _ _ _ _ _ _ _ _ _ _ _ _ _ r h => by simp [spec_SetupOk.l1] at h⟩
 | k + 1 => by
  obtain ⟨ih0, ih1, ih2⟩ := spec_SetupOk.mono_l k
  refine ⟨?_, ?_, ?_⟩
  ·intro y0 y1 y2 y3 y4 y5 y6 y7 y8 y9 y10 y11 y12
   unfold spec_SetupOk.j0
   have m0 := @spec_BehaveOk.mono
   have m1 := @spec_GoalOk.mono
   exact Pst.mo
  ·intro y0 y1 y2 y3 y4 y5 y6 y7 y8 y9 y10 y11 y12
   unfold spec_SetupOk.l0
   have m0 := @spec_BehaveOk.mono
   have m1 := @spec_GoalOk.mono
   exact Pst.mo
  intro y0 y1 y2 y3 y4 y5 y6 y7 y8 y9 y10 y11 y12 y13
  unfold spec_SetupOk.l1
  have m0 := @spec_BehaveOk.mono
  have m1 := @spec_GoalOk.mono
  exact Pst.mo
theorem spec_SetupOk.mono : ∀ a0 a1 a2 a3 a4 a5 a6 a7 a8 a9 a10 a11 k, LeO (spec_SetupOk.f k a0 a1 a2 a3 a4 a5 a6 a7 a8 a9 a10 a11) (spec_SetupOk.f (k + 1) a0 a1 a2 a3 a4 a5 a6 a7 a8 a9 a10 a11) := by
 intro a0 a1 a2 a3 a4 a5 a6 a7 a8 a9 a10 a11 k
 obtain ⟨ih0, ih1, ih2⟩ := spec_SetupOk.mono_l k
 unfold spec_SetupOk.f
 have m0 := @spec_BehaveOk.mono
 have m1 := @spec_GoalOk.mono
 exact Pst.mo
theorem spec_SetupOk.calls (k : Nat) (a0_0 : Int) (a0_1 : Int) (a0_2 : Int) (A0_3 : Option Addr) (c0_3 : Nat) (l0_3 : List (S48)) (A0_4 : Option Addr) (c0_4 : Nat) (l0_4 : List (S101)) (a0_5 : Int) (a0_6 : Int) (A0_7 : Option Addr) (c0_7 : Nat) (l0_7 : List (S101)) (a0_8 : Int) (a0_9 : Int) (a0_10 : Int) (a0_11 : Int) (r : Bool) (w : World) (hr0_3 : Kd.C k48 w A0_3 l0_3.length l0_3) (hc0_3 : l0_3.length ≤ c0_3) (hr0_4 : Kd.C k101 w A0_4 l0_4.length l0_4) (hc0_4 : l0_4.length ≤ c0_4) (hr0_7 : Kd.C k101 w A0_7 l0_7.length l0_7) (hc0_7 : l0_7.length ≤ c0_7) (h : spec_SetupOk.f k a0_0 a0_1 a0_2 l0_3 l0_4 a0_5 a0_6 l0_7 a0_8 a0_9 a0_10 a0_11 = some r) :
 Calls Tryz.prog 22 #[.agg #[.int .i64 a0_0, .int .i64 a0_1, .int .i64 a0_2, .slice A0_3 l0_3.length c0_3, .slice A0_4 l0_4.length c0_4, .int .i64 a0_5, .int .i64 a0_6, .slice A0_7 l0_7.length c0_7, .int .i64 a0_8, .int .i64 a0_9, .int .i64 a0_10, .int .i64 a0_11]] w fun e w' => e = .returned (.bool r) ∧ Below w.heap.size w w' := by
 have hu33 := Tryz.underlying33
 have hu25 := Tryz.underlying25
 have hu31 := Tryz.underlying31
 have hu48 := Tryz.underlying48
 have HR0_3 := Pst.A hr0_3
 have HC0_3 := Pst.A hc0_3
 clear hr0_3 hc0_3
 have HR0_4 := Pst.A hr0_4
 have HC0_4 := Pst.A hc0_4
 clear hr0_4 hc0_4
 have HR0_7 := Pst.A hr0_7
 have HC0_7 := Pst.A hc0_7
 clear hr0_7 hc0_7
 have HB := Pst.A (Below.refl w.heap.size w)
 have H : ((spec_RulesOk.f a0_0 a0_1 a0_2).bind fun t455 => (if t455 = true then ((spec_BehaveOk.f k l0_4 a0_5 a0_6 l0_7 a0_8 a0_9 a0_10 a0_11).bind fun t456 => (if t456 = true then ((spec_l01In.f (l0_3.length : Int) 1 3).bind fun t457 => (spec_SetupOk.j0 k (!t457) a0_0 a0_1 a0_2 l0_3 l0_4 a0_5 a0_6 l0_7 a0_8 a0_9 a0_10 a0_11)) else (spec_SetupOk.j0 k true a0_0 a0_1 a0_2 l0_3 l0_4 a0_5 a0_6 l0_7 a0_8 a0_9 a0_10 a0_11))) else (spec_SetupOk.j0 k true a0_0 a0_1 a0_2 l0_3 l0_4 a0_5 a0_6 l0_7 a0_8 a0_9 a0_10 a0_11))) = some r := h
 clear h
 have HC2 := Pst.A H
 clear H
 go_enter Tryz.func22, Tryz.ntmps22
 go_upto_region 1 with (first | ((with_reducible refine gate_dst (N := 1) rfl ?_); (try (refine gate_guard (by rfl) ?_; dsimp only)); refine Pst.bx 1 #[.int .i64 a0_0, .int .i64 a0_1, .int .i64 a0_2, .slice A0_3 l0_3.length c0_3, .slice A0_4 l0_4.length c0_4, .int .i64 a0_5, .int .i64 a0_6, .slice A0_7 l0_7.length c0_7, .int .i64 a0_8, .int .i64 a0_9, .int .i64 a0_10, .int .i64 a0_11] 33 ?_; intro gb454 hg w3 hbox hb; have BK454 := Pst.A hbox; have GW454 := Pst.A (Pst.gs hg : w.heap.size ≤ gb454); have GE454 := Pst.A (Pst.gs hg : w.heap.size ≤ gb454); replace HB := Pst.A (below_step Pst.bel hb); clear hb hbox hg))
 repeat (go_quiet (first | ((with_reducible refine gate_dst (N := 1) rfl ?_); (try (refine gate_guard (by rfl) ?_; dsimp only)); refine Pst.bx 1 #[.int .i64 a0_0, .int .i64 a0_1, .int .i64 a0_2, .slice A0_3 l0_3.length c0_3, .slice A0_4 l0_4.length c0_4, .int .i64 a0_5, .int .i64 a0_6, .slice A0_7 l0_7.length c0_7, .int .i64 a0_8, .int .i64 a0_9, .int .i64 a0_10, .int .i64 a0_11] 33 ?_; intro gb454 hg w3 hbox hb; have BK454 := Pst.A hbox; have GW454 := Pst.A (Pst.gs hg : w.heap.size ≤ gb454); have GE454 := Pst.A (Pst.gs hg : w.heap.size ≤ gb454); replace HB := Pst.A (below_step Pst.bel hb); clear hb hbox hg)); go_upto_region 1 with (first | ((with_reducible refine gate_dst (N := 1) rfl ?_); (try (refine gate_guard (by rfl) ?_; dsimp only)); refine Pst.bx 1 #[.int .i64 a0_0, .int .i64 a0_1, .int .i64 a0_2, .slice A0_3 l0_3.length c0_3, .slice A0_4 l0_4.length c0_4, .int .i64 a0_5, .int .i64 a0_6, .slice A0_7 l0_7.length c0_7, .int .i64 a0_8, .int .i64 a0_9, .int .i64 a0_10, .int .i64 a0_11] 33 ?_; intro gb454 hg w3 hbox hb; have BK454 := Pst.A hbox; have GW454 := Pst.A (Pst.gs hg : w.heap.size ≤ gb454); have GE454 := Pst.A (Pst.gs hg : w.heap.size ≤ gb454); replace HB := Pst.A (below_step Pst.bel hb); clear hb hbox hg)))
 (try simp only [Act.put, List.setIfInBounds_toArray, List.set_cons_zero, List.set_cons_succ])
 go_cut [21] (fun v21 wc => ∃ (kq : Nat) (x21_1 : Bool), v21 = .bool x21_1 ∧ Aside0 (spec_SetupOk.j0 kq x21_1 a0_0 a0_1 a0_2 l0_3 l0_4 a0_5 a0_6 l0_7 a0_8 a0_9 a0_10 a0_11 = some r) ∧ Aside0 (kq ≤ k) ∧ Aside0 (wc.heap[gb454]? = some (.cells #[.int .i64 a0_0, .int .i64 a0_1, .int .i64 a0_2, (.slice A0_3 l0_3.length c0_3), (.slice A0_4 l0_4.length c0_4), .int .i64 a0_5, .int .i64 a0_6, (.slice A0_7 l0_7.length c0_7), .int .i64 a0_8, .int .i64 a0_9, .int .i64 a0_10, .int .i64 a0_11] 33 (0, 0))) ∧ Aside0 (Below w.heap.size w wc))
 case first =>
  have H := HC2.out
  clear HC2
  obtain ⟨t455, A40, H⟩ := Pst.bd H
  have A4 := Pst.A A40
  clear A40
  by_cases c5 : t455 = true
  ·subst c5
   rw [if_pos rfl] at H
   obtain ⟨t456, A60, H⟩ := Pst.bd H
   have A6 := Pst.A A60
   clear A60
   by_cases c7 : t456 = true
   ·subst c7
    rw [if_pos rfl] at H
    obtain ⟨t457, A80, H⟩ := Pst.bd H
    have A8 := Pst.A A80
    clear A80
    have H' := Pst.A H
    clear H
    obtain ⟨hcz9_0, hcz9_1, hcz9_2, hcz9_3, hcz9_4, hcz9_5, hcz9_6, hcz9_7, hcz9_8, hcz9_9, hcz9_10, hcz9_11⟩ := Pst.c12 BK454.out
    obtain ⟨hfz9_0, hfz9_1, hfz9_2, hfz9_3, hfz9_4, hfz9_5, hfz9_6, hfz9_7, hfz9_8, hfz9_9, hfz9_10, hfz9_11⟩ := Pst.f12 BK454.out
    go_wp2_with (first | (go_at_call 41; (with_reducible refine (spec_RulesOk.calls a0_0 a0_1 a0_2 true _ A4.out).mono ?_); rintro e w10 ⟨rfl, hb⟩; replace BK454 := Pst.A (Pst.kb BK454.out hb); replace HB := Pst.A (below_step Pst.bes hb); (try clear hb); (try clear hb2); (try clear hk); (try clear hi); obtain ⟨hcz11_0, hcz11_1, hcz11_2, hcz11_3, hcz11_4, hcz11_5, hcz11_6, hcz11_7, hcz11_8, hcz11_9, hcz11_10, hcz11_11⟩ := Pst.c12 BK454.out; obtain ⟨hfz11_0, hfz11_1, hfz11_2, hfz11_3, hfz11_4, hfz11_5, hfz11_6, hfz11_7, hfz11_8, hfz11_9, hfz11_10, hfz11_11⟩ := Pst.f12 BK454.out) | (go_at_call 42; (with_reducible refine (spec_BehaveOk.calls k _ _ l0_4 a0_5 a0_6 _ _ l0_7 a0_8 a0_9 a0_10 a0_11 true _ ?side1 ?side2 ?side3 ?side4 A6.out).mono ?_); (case side1 => exact Pst.qc (Kd.C_below HR0_4.out HB.out)); (case side2 => exact HC0_4.out); (case side3 => exact Pst.qc (Kd.C_below HR0_7.out HB.out)); (case side4 => exact HC0_7.out); rintro e w12 ⟨rfl, hb⟩; replace BK454 := Pst.A (Pst.kb BK454.out hb); replace HB := Pst.A (below_step Pst.bes hb); (try clear hb); (try clear hb2); (try clear hk); (try clear hi); obtain ⟨hcz13_0, hcz13_1, hcz13_2, hcz13_3, hcz13_4, hcz13_5, hcz13_6, hcz13_7, hcz13_8, hcz13_9, hcz13_10, hcz13_11⟩ := Pst.c12 BK454.out; obtain ⟨hfz13_0, hfz13_1, hfz13_2, hfz13_3, hfz13_4, hfz13_5, hfz13_6, hfz13_7, hfz13_8, hfz13_9, hfz13_10, hfz13_11⟩ := Pst.f12 BK454.out) | (go_at_call 23; (with_reducible refine (spec_l01In.calls (l0_3.length : Int) 1 3 t457 _ A8.out).mono ?_); rintro e w' ⟨rfl, ⟨nd, rfl⟩⟩; (try first | exact ⟨rfl, _, World.drewN_drewN _ _ _⟩ | exact ⟨rfl, _, Eq.trans (World.drewN_drewN _ _ _) (congrArg (World.drewN _) (Nat.add_assoc _ _ _))⟩)))
    repeat (go_quiet (first | (go_at_call 41; (with_reducible refine (spec_RulesOk.calls a0_0 a0_1 a0_2 true _ A4.out).mono ?_); rintro e w10 ⟨rfl, hb⟩; replace BK454 := Pst.A (Pst.kb BK454.out hb); replace HB := Pst.A (below_step Pst.bes hb); (try clear hb); (try clear hb2); (try clear hk); (try clear hi); obtain ⟨hcz11_0, hcz11_1, hcz11_2, hcz11_3, hcz11_4, hcz11_5, hcz11_6, hcz11_7, hcz11_8, hcz11_9, hcz11_10, hcz11_11⟩ := Pst.c12 BK454.out; obtain ⟨hfz11_0, hfz11_1, hfz11_2, hfz11_3, hfz11_4, hfz11_5, hfz11_6, hfz11_7, hfz11_8, hfz11_9, hfz11_10, hfz11_11⟩ := Pst.f12 BK454.out) | (go_at_call 42; (with_reducible refine (spec_BehaveOk.calls k _ _ l0_4 a0_5 a0_6 _ _ l0_7 a0_8 a0_9 a0_10 a0_11 true _ ?side1 ?side2 ?side3 ?side4 A6.out).mono ?_); (case side1 => exact Pst.qc (Kd.C_below HR0_4.out HB.out)); (case side2 => exact HC0_4.out); (case side3 => exact Pst.qc (Kd.C_below HR0_7.out HB.out)); (case side4 => exact HC0_7.out); rintro e w12 ⟨rfl, hb⟩; replace BK454 := Pst.A (Pst.kb BK454.out hb); replace HB := Pst.A (below_step Pst.bes hb); (try clear hb); (try clear hb2); (try clear hk); (try clear hi); obtain ⟨hcz13_0, hcz13_1, hcz13_2, hcz13_3, hcz13_4, hcz13_5, hcz13_6, hcz13_7, hcz13_8, hcz13_9, hcz13_10, hcz13_11⟩ := Pst.c12 BK454.out; obtain ⟨hfz13_0, hfz13_1, hfz13_2, hfz13_3, hfz13_4, hfz13_5, hfz13_6, hfz13_7, hfz13_8, hfz13_9, hfz13_10, hfz13_11⟩ := Pst.f12 BK454.out) | (go_at_call 23; (with_reducible refine (spec_l01In.calls (l0_3.length : Int) 1 3 t457 _ A8.out).mono ?_); rintro e w' ⟨rfl, ⟨nd, rfl⟩⟩; (try first | exact ⟨rfl, _, World.drewN_drewN _ _ _⟩ | exact ⟨rfl, _, Eq.trans (World.drewN_drewN _ _ _) (congrArg (World.drewN _) (Nat.add_assoc _ _ _))⟩))); try go_wp2_with (first | (go_at_call 41; (with_reducible refine (spec_RulesOk.calls a0_0 a0_1 a0_2 true _ A4.out).mono ?_); rintro e w10 ⟨rfl, hb⟩; replace BK454 := Pst.A (Pst.kb BK454.out hb); replace HB := Pst.A (below_step Pst.bes hb); (try clear hb); (try clear hb2); (try clear hk); (try clear hi); obtain ⟨hcz11_0, hcz11_1, hcz11_2, hcz11_3, hcz11_4, hcz11_5, hcz11_6, hcz11_7, hcz11_8, hcz11_9, hcz11_10, hcz11_11⟩ := Pst.c12 BK454.out; obtain ⟨hfz11_0, hfz11_1, hfz11_2, hfz11_3, hfz11_4, hfz11_5, hfz11_6, hfz11_7, hfz11_8, hfz11_9, hfz11_10, hfz11_11⟩ := Pst.f12 BK454.out) | (go_at_call 42; (with_reducible refine (spec_BehaveOk.calls k _ _ l0_4 a0_5 a0_6 _ _ l0_7 a0_8 a0_9 a0_10 a0_11 true _ ?side1 ?side2 ?side3 ?side4 A6.out).mono ?_); (case side1 => exact Pst.qc (Kd.C_below HR0_4.out HB.out)); (case side2 => exact HC0_4.out); (case side3 => exact Pst.qc (Kd.C_below HR0_7.out HB.out)); (case side4 => exact HC0_7.out); rintro e w12 ⟨rfl, hb⟩; replace BK454 := Pst.A (Pst.kb BK454.out hb); replace HB := Pst.A (below_step Pst.bes hb); (try clear hb); (try clear hb2); (try clear hk); (try clear hi); obtain ⟨hcz13_0, hcz13_1, hcz13_2, hcz13_3, hcz13_4, hcz13_5, hcz13_6, hcz13_7, hcz13_8, hcz13_9, hcz13_10, hcz13_11⟩ := Pst.c12 BK454.out; obtain ⟨hfz13_0, hfz13_1, hfz13_2, hfz13_3, hfz13_4, hfz13_5, hfz13_6, hfz13_7, hfz13_8, hfz13_9, hfz13_10, hfz13_11⟩ := Pst.f12 BK454.out) | (go_at_call 23; (with_reducible refine (spec_l01In.calls (l0_3.length : Int) 1 3 t457 _ A8.out).mono ?_); rintro e w' ⟨rfl, ⟨nd, rfl⟩⟩; (try first | exact ⟨rfl, _, World.drewN_drewN _ _ _⟩ | exact ⟨rfl, _, Eq.trans (World.drewN_drewN _ _ _) (congrArg (World.drewN _) (Nat.add_assoc _ _ _))⟩))))
    go_meet
    case rel => exact ⟨_, (!t457), Pst.e2, H', ⟨by first | omega | exact Nat.le_refl _⟩, ⟨by exact Pst.qb BK454.out⟩, ⟨Pst.bes⟩⟩
   replace c7 := Bool.eq_false_iff.mpr c7
   subst c7
   rw [if_neg Pst.ft] at H
   have H' := Pst.A H
   clear H
   obtain ⟨hcz14_0, hcz14_1, hcz14_2, hcz14_3, hcz14_4, hcz14_5, hcz14_6, hcz14_7, hcz14_8, hcz14_9, hcz14_10, hcz14_11⟩ := Pst.c12 BK454.out
   obtain ⟨hfz14_0, hfz14_1, hfz14_2, hfz14_3, hfz14_4, hfz14_5, hfz14_6, hfz14_7, hfz14_8, hfz14_9, hfz14_10, hfz14_11⟩ := Pst.f12 BK454.out
   go_wp2_with (first | (go_at_call 41; (with_reducible refine (spec_RulesOk.calls a0_0 a0_1 a0_2 true _ A4.out).mono ?_); rintro e w15 ⟨rfl, hb⟩; replace BK454 := Pst.A (Pst.kb BK454.out hb); replace HB := Pst.A (below_step Pst.bes hb); (try clear hb); (try clear hb2); (try clear hk); (try clear hi); obtain ⟨hcz16_0, hcz16_1, hcz16_2, hcz16_3, hcz16_4, hcz16_5, hcz16_6, hcz16_7, hcz16_8, hcz16_9, hcz16_10, hcz16_11⟩ := Pst.c12 BK454.out; obtain ⟨hfz16_0, hfz16_1, hfz16_2, hfz16_3, hfz16_4, hfz16_5, hfz16_6, hfz16_7, hfz16_8, hfz16_9, hfz16_10, hfz16_11⟩ := Pst.f12 BK454.out) | (go_at_call 42; (with_reducible refine (spec_BehaveOk.calls k _ _ l0_4 a0_5 a0_6 _ _ l0_7 a0_8 a0_9 a0_10 a0_11 false _ ?side1 ?side2 ?side3 ?side4 A6.out).mono ?_); (case side1 => exact Pst.qc (Kd.C_below HR0_4.out HB.out)); (case side2 => exact HC0_4.out); (case side3 => exact Pst.qc (Kd.C_below HR0_7.out HB.out)); (case side4 => exact HC0_7.out); rintro e w17 ⟨rfl, hb⟩; replace BK454 := Pst.A (Pst.kb BK454.out hb); replace HB := Pst.A (below_step Pst.bes hb); (try clear hb); (try clear hb2); (try clear hk); (try clear hi)))
   repeat (go_quiet (first | (go_at_call 41; (with_reducible refine (spec_RulesOk.calls a0_0 a0_1 a0_2 true _ A4.out).mono ?_); rintro e w15 ⟨rfl, hb⟩; replace BK454 := Pst.A (Pst.kb BK454.out hb); replace HB := Pst.A (below_step Pst.bes hb); (try clear hb); (try clear hb2); (try clear hk); (try clear hi); obtain ⟨hcz16_0, hcz16_1, hcz16_2, hcz16_3, hcz16_4, hcz16_5, hcz16_6, hcz16_7, hcz16_8, hcz16_9, hcz16_10, hcz16_11⟩ := Pst.c12 BK454.out; obtain ⟨hfz16_0, hfz16_1, hfz16_2, hfz16_3, hfz16_4, hfz16_5, hfz16_6, hfz16_7, hfz16_8, hfz16_9, hfz16_10, hfz16_11⟩ := Pst.f12 BK454.out) | (go_at_call 42; (with_reducible refine (spec_BehaveOk.calls k _ _ l0_4 a0_5 a0_6 _ _ l0_7 a0_8 a0_9 a0_10 a0_11 false _ ?side1 ?side2 ?side3 ?side4 A6.out).mono ?_); (case side1 => exact Pst.qc (Kd.C_below HR0_4.out HB.out)); (case side2 => exact HC0_4.out); (case side3 => exact Pst.qc (Kd.C_below HR0_7.out HB.out)); (case side4 => exact HC0_7.out); rintro e w17 ⟨rfl, hb⟩; replace BK454 := Pst.A (Pst.kb BK454.out hb); replace HB := Pst.A (below_step Pst.bes hb); (try clear hb); (try clear hb2); (try clear hk); (try clear hi))); try go_wp2_with (first | (go_at_call 41; (with_reducible refine (spec_RulesOk.calls a0_0 a0_1 a0_2 true _ A4.out).mono ?_); rintro e w15 ⟨rfl, hb⟩; replace BK454 := Pst.A (Pst.kb BK454.out hb); replace HB := Pst.A (below_step Pst.bes hb); (try clear hb); (try clear hb2); (try clear hk); (try clear hi); obtain ⟨hcz16_0, hcz16_1, hcz16_2, hcz16_3, hcz16_4, hcz16_5, hcz16_6, hcz16_7, hcz16_8, hcz16_9, hcz16_10, hcz16_11⟩ := Pst.c12 BK454.out; obtain ⟨hfz16_0, hfz16_1, hfz16_2, hfz16_3, hfz16_4, hfz16_5, hfz16_6, hfz16_7, hfz16_8, hfz16_9, hfz16_10, hfz16_11⟩ := Pst.f12 BK454.out) | (go_at_call 42; (with_reducible refine (spec_BehaveOk.calls k _ _ l0_4 a0_5 a0_6 _ _ l0_7 a0_8 a0_9 a0_10 a0_11 false _ ?side1 ?side2 ?side3 ?side4 A6.out).mono ?_); (case side1 => exact Pst.qc (Kd.C_below HR0_4.out HB.out)); (case side2 => exact HC0_4.out); (case side3 => exact Pst.qc (Kd.C_below HR0_7.out HB.out)); (case side4 => exact HC0_7.out); rintro e w17 ⟨rfl, hb⟩; replace BK454 := Pst.A (Pst.kb BK454.out hb); replace HB := Pst.A (below_step Pst.bes hb); (try clear hb); (try clear hb2); (try clear hk); (try clear hi))))
   go_meet
   case rel => exact ⟨_, (true), Pst.e2, H', ⟨by first | omega | exact Nat.le_refl _⟩, ⟨by exact Pst.qb BK454.out⟩, ⟨Pst.bes⟩⟩
  replace c5 := Bool.eq_false_iff.mpr c5
  subst c5
  rw [if_neg Pst.ft] at H
  have H' := Pst.A H
  clear H
  obtain ⟨hcz18_0, hcz18_1, hcz18_2, hcz18_3, hcz18_4, hcz18_5, hcz18_6, hcz18_7, hcz18_8, hcz18_9, hcz18_10, hcz18_11⟩ := Pst.c12 BK454.out
  obtain ⟨hfz18_0, hfz18_1, hfz18_2, hfz18_3, hfz18_4, hfz18_5, hfz18_6, hfz18_7, hfz18_8, hfz18_9, hfz18_10, hfz18_11⟩ := Pst.f12 BK454.out
  go_wp2_with (first | (go_at_call 41; (with_reducible refine (spec_RulesOk.calls a0_0 a0_1 a0_2 false _ A4.out).mono ?_); rintro e w19 ⟨rfl, hb⟩; replace BK454 := Pst.A (Pst.kb BK454.out hb); replace HB := Pst.A (below_step Pst.bes hb); (try clear hb); (try clear hb2); (try clear hk); (try clear hi)))
  repeat (go_quiet (first | (go_at_call 41; (with_reducible refine (spec_RulesOk.calls a0_0 a0_1 a0_2 false _ A4.out).mono ?_); rintro e w19 ⟨rfl, hb⟩; replace BK454 := Pst.A (Pst.kb BK454.out hb); replace HB := Pst.A (below_step Pst.bes hb); (try clear hb); (try clear hb2); (try clear hk); (try clear hi))); try go_wp2_with (first | (go_at_call 41; (with_reducible refine (spec_RulesOk.calls a0_0 a0_1 a0_2 false _ A4.out).mono ?_); rintro e w19 ⟨rfl, hb⟩; replace BK454 := Pst.A (Pst.kb BK454.out hb); replace HB := Pst.A (below_step Pst.bes hb); (try clear hb); (try clear hb2); (try clear hk); (try clear hi))))
  go_meet
  case rel => exact ⟨_, (true), Pst.e2, H', ⟨by first | omega | exact Nat.le_refl _⟩, ⟨by exact Pst.qb BK454.out⟩, ⟨Pst.bes⟩⟩
 clear HC2
 try clear c2
 try clear p2
 try clear c5
 try clear c7
 obtain ⟨kq, x21_1, rfl, HA, HJ1, BK454, HB⟩ := hcut
 cases kq with
 | zero => exact absurd HA.out (by simp [spec_SetupOk.j0])
 | succ kj1 =>
  have H := HA.out
  clear HA
  simp only [spec_SetupOk.j0] at H
  by_cases c20 : x21_1 = true
  ·subst c20
   rw [if_pos rfl] at H
   obtain rfl := Option.some.inj H
   go_wp2
   repeat (go_quiet (fail); try go_wp2)
   go_ret
   exact ⟨Pst.e1, Pst.bes⟩
  replace c20 := Bool.eq_false_iff.mpr c20
  subst c20
  rw [if_neg Pst.ft] at H
  have H' := Pst.A H
  clear H
  go_wp2
  repeat (go_quiet (fail); try go_wp2)
  go_loopg [3] kj1 (fun kq v3 w' => ∃ (x3_2 : Int), v3 = .int .i64 x3_2 ∧ Aside0 (spec_SetupOk.l0 kq x3_2 a0_0 a0_1 a0_2 l0_3 l0_4 a0_5 a0_6 l0_7 a0_8 a0_9 a0_10 a0_11 = some r) ∧ Aside0 (kq ≤ kj1) ∧ Aside0 (w'.heap[gb454]? = some (.cells #[.int .i64 a0_0, .int .i64 a0_1, .int .i64 a0_2, (.slice A0_3 l0_3.length c0_3), (.slice A0_4 l0_4.length c0_4), .int .i64 a0_5, .int .i64 a0_6, (.slice A0_7 l0_7.length c0_7), .int .i64 a0_8, .int .i64 a0_9, .int .i64 a0_10, .int .i64 a0_11] 33 (0, 0))) ∧ Aside0 (Below w.heap.size w w'))
  case atStart => exact ⟨(0), Pst.e2, H', ⟨Nat.le_refl _⟩, ⟨by exact Pst.qb BK454.out⟩, ⟨Pst.bes⟩⟩
  clear H'
  try clear c2
  try clear p2
  try clear c5
  try clear c7
  try clear c20
  try clear p2
  obtain ⟨x3_2, rfl, HA, HK2, BK454, HB⟩ := hrel
  cases gk with
  | zero => exact absurd HA.out (by simp [spec_SetupOk.l0])
  | succ k2 =>
   have H := HA.out
   clear HA
   simp only [spec_SetupOk.l0] at H
   by_cases c21 : x3_2 < (l0_3.length : Int)
   ·rw [if_pos c21] at H
    have c21b0 : decide (x3_2 < (l0_3.length : Int)) = true := decide_eq_true c21
    clear c21
    by_cases c22 : 0 ≤ x3_2
    ·rw [if_pos c22] at H
     have c22b0 : decide (0 ≤ x3_2) = true := decide_eq_true c22
     clear c22
     obtain ⟨t459, A230, H⟩ := Pst.bd H
     have A23 := Pst.A A230
     clear A230
     by_cases c24 : t459 = true
     ·subst c24
      rw [if_pos rfl] at H
      have H' := Pst.A H
      clear H
      obtain ⟨hcz25_0, hcz25_1, hcz25_2, hcz25_3, hcz25_4, hcz25_5, hcz25_6, hcz25_7, hcz25_8, hcz25_9, hcz25_10, hcz25_11⟩ := Pst.c12 BK454.out
      obtain ⟨hfz25_0, hfz25_1, hfz25_2, hfz25_3, hfz25_4, hfz25_5, hfz25_6, hfz25_7, hfz25_8, hfz25_9, hfz25_10, hfz25_11⟩ := Pst.f12 BK454.out
      have p458 : 0 ≤ (x3_2 : Int) := Pst.da
      have q458 : x3_2 < (l0_3.length : Int) := Pst.da
      obtain ⟨ad458, e458, hx458_0, hx458_1, hx458_2⟩ := at_T48 HR0_3.out x3_2 p458 q458
      cases e458
      replace hx458_0 := (HB.out.cell (World.block_lt_of_cell? w _ hx458_0)).trans hx458_0
      replace hx458_1 := (HB.out.cell (World.block_lt_of_cell? w _ hx458_1)).trans hx458_1
      replace hx458_2 := (HB.out.cell (World.block_lt_of_cell? w _ hx458_2)).trans hx458_2
      replace p458 := eq_true p458
      replace q458 := eq_true q458
      go_wp2_with (first | (go_at_call 43; (with_reducible refine (spec_GoalOk.calls k2 ((rd_T48 l0_3 x3_2).f0) ((rd_T48 l0_3 x3_2).f1) ((rd_T48 l0_3 x3_2).f2) true _ A23.out).mono ?_); rintro e w26 ⟨rfl, hb⟩; replace BK454 := Pst.A (Pst.kb BK454.out hb); replace HB := Pst.A (below_step Pst.bes hb); (try clear hb); (try clear hb2); (try clear hk); (try clear hi)))
      repeat (go_quiet (first | (go_at_call 43; (with_reducible refine (spec_GoalOk.calls k2 ((rd_T48 l0_3 x3_2).f0) ((rd_T48 l0_3 x3_2).f1) ((rd_T48 l0_3 x3_2).f2) true _ A23.out).mono ?_); rintro e w26 ⟨rfl, hb⟩; replace BK454 := Pst.A (Pst.kb BK454.out hb); replace HB := Pst.A (below_step Pst.bes hb); (try clear hb); (try clear hb2); (try clear hk); (try clear hi))); try go_wp2_with (first | (go_at_call 43; (with_reducible refine (spec_GoalOk.calls k2 ((rd_T48 l0_3 x3_2).f0) ((rd_T48 l0_3 x3_2).f1) ((rd_T48 l0_3 x3_2).f2) true _ A23.out).mono ?_); rintro e w26 ⟨rfl, hb⟩; replace BK454 := Pst.A (Pst.kb BK454.out hb); replace HB := Pst.A (below_step Pst.bes hb); (try clear hb); (try clear hb2); (try clear hk); (try clear hi))))
      go_loopg [4] k2 (fun kq v4 w' => ∃ (x4_3 : Int), v4 = .int .i64 x4_3 ∧ Aside0 (spec_SetupOk.l1 kq x3_2 x4_3 a0_0 a0_1 a0_2 l0_3 l0_4 a0_5 a0_6 l0_7 a0_8 a0_9 a0_10 a0_11 = some r) ∧ Aside0 (kq ≤ k2) ∧ Aside0 (w'.heap[gb454]? = some (.cells #[.int .i64 a0_0, .int .i64 a0_1, .int .i64 a0_2, (.slice (some ad458) l0_3.length c0_3), (.slice A0_4 l0_4.length c0_4), .int .i64 a0_5, .int .i64 a0_6, (.slice A0_7 l0_7.length c0_7), .int .i64 a0_8, .int .i64 a0_9, .int .i64 a0_10, .int .i64 a0_11] 33 (0, 0))) ∧ Aside0 (Below w.heap.size w w'))
      case atStart => exact ⟨(0), Pst.e2, H', ⟨Nat.le_refl _⟩, ⟨by exact Pst.qb BK454.out⟩, ⟨Pst.bes⟩⟩
      clear H'
      try clear c2
      try clear p2
      try clear p4
      try clear q4
      try clear hx4
      try clear c5
      try clear c7
      try clear c20
      try clear c21
      try clear c21b0
      try clear c22
      try clear c22b0
      try clear c24
      try clear hx458_0
      try clear hx458_1
      try clear hx458_2
      try clear p2
      try clear p458
      try clear q458
      obtain ⟨x4_3, rfl, HA, HK3, BK454, HB⟩ := hrel
      cases gk with
      | zero => exact absurd HA.out (by simp [spec_SetupOk.l1])
      | succ k3 =>
       have H := HA.out
       clear HA
       simp only [spec_SetupOk.l1] at H
       by_cases c27 : x4_3 < x3_2
       ·rw [if_pos c27] at H
        have c27b0 : decide (x4_3 < x3_2) = true := decide_eq_true c27
        clear c27
        by_cases c28 : 0 ≤ x4_3
        ·rw [if_pos c28] at H
         have c28b0 : decide (0 ≤ x4_3) = true := decide_eq_true c28
         clear c28
         by_cases c29 : x4_3 < (l0_3.length : Int)
         ·rw [if_pos c29] at H
          have c29b0 : decide (x4_3 < (l0_3.length : Int)) = true := decide_eq_true c29
          clear c29
          by_cases c30 : 0 ≤ x3_2
          ·rw [if_pos c30] at H
           have c30b0 : decide (0 ≤ x3_2) = true := decide_eq_true c30
           clear c30
           by_cases c31 : x3_2 < (l0_3.length : Int)
           ·rw [if_pos c31] at H
            have c31b0 : decide (x3_2 < (l0_3.length : Int)) = true := decide_eq_true c31
            clear c31
            by_cases c32 : ((rd_T48 l0_3 x4_3).f0).toList = ((rd_T48 l0_3 x3_2).f0).toList
            ·rw [if_pos c32] at H
             have c32b0 : (((rd_T48 l0_3 x4_3).f0).toList == ((rd_T48 l0_3 x3_2).f0).toList) = true := beq_iff_eq.mpr c32
             have c32b1 : (((rd_T48 l0_3 x4_3).f0).toList != ((rd_T48 l0_3 x3_2).f0).toList) = false := bne_eq_false_iff_eq.mpr c32
             clear c32
             obtain rfl := Option.some.inj H
             obtain ⟨hcz33_0, hcz33_1, hcz33_2, hcz33_3, hcz33_4, hcz33_5, hcz33_6, hcz33_7, hcz33_8, hcz33_9, hcz33_10, hcz33_11⟩ := Pst.c12 BK454.out
             obtain ⟨hfz33_0, hfz33_1, hfz33_2, hfz33_3, hfz33_4, hfz33_5, hfz33_6, hfz33_7, hfz33_8, hfz33_9, hfz33_10, hfz33_11⟩ := Pst.f12 BK454.out
             have p460 : 0 ≤ (x4_3 : Int) := Pst.da
             have q460 : x4_3 < (l0_3.length : Int) := Pst.da
             obtain ⟨ad460, e460, hx460_0, hx460_1, hx460_2⟩ := at_T48 HR0_3.out x4_3 p460 q460
             obtain rfl : ad458 = ad460 := (by injection e460)
             replace hx460_0 := (HB.out.cell (World.block_lt_of_cell? w _ hx460_0)).trans hx460_0
             replace hx460_1 := (HB.out.cell (World.block_lt_of_cell? w _ hx460_1)).trans hx460_1
             replace hx460_2 := (HB.out.cell (World.block_lt_of_cell? w _ hx460_2)).trans hx460_2
             replace p460 := eq_true p460
             replace q460 := eq_true q460
             have p461 : 0 ≤ (x3_2 : Int) := Pst.da
             have q461 : x3_2 < (l0_3.length : Int) := Pst.da
             obtain ⟨ad461, e461, hx461_0, hx461_1, hx461_2⟩ := at_T48 HR0_3.out x3_2 p461 q461
             obtain rfl : ad458 = ad461 := (by injection e461)
             replace hx461_0 := (HB.out.cell (World.block_lt_of_cell? w _ hx461_0)).trans hx461_0
             replace hx461_1 := (HB.out.cell (World.block_lt_of_cell? w _ hx461_1)).trans hx461_1
             replace hx461_2 := (HB.out.cell (World.block_lt_of_cell? w _ hx461_2)).trans hx461_2
             replace p461 := eq_true p461
             replace q461 := eq_true q461
             go_wp2
             repeat (go_quiet (fail); try go_wp2)
             go_ret
             exact ⟨Pst.e1, Pst.bes⟩
            rw [if_neg c32] at H
            have c32b0 : (((rd_T48 l0_3 x4_3).f0).toList == ((rd_T48 l0_3 x3_2).f0).toList) = false := beq_eq_false_iff_ne.mpr c32
            have c32b1 : (((rd_T48 l0_3 x4_3).f0).toList != ((rd_T48 l0_3 x3_2).f0).toList) = true := bne_iff_ne.mpr c32
            have H' := Pst.A H
            clear H
            obtain ⟨hcz34_0, hcz34_1, hcz34_2, hcz34_3, hcz34_4, hcz34_5, hcz34_6, hcz34_7, hcz34_8, hcz34_9, hcz34_10, hcz34_11⟩ := Pst.c12 BK454.out
            obtain ⟨hfz34_0, hfz34_1, hfz34_2, hfz34_3, hfz34_4, hfz34_5, hfz34_6, hfz34_7, hfz34_8, hfz34_9, hfz34_10, hfz34_11⟩ := Pst.f12 BK454.out
            have p460 : 0 ≤ (x4_3 : Int) := Pst.da
            have q460 : x4_3 < (l0_3.length : Int) := Pst.da
            obtain ⟨ad460, e460, hx460_0, hx460_1, hx460_2⟩ := at_T48 HR0_3.out x4_3 p460 q460
            obtain rfl : ad458 = ad460 := (by injection e460)
            replace hx460_0 := (HB.out.cell (World.block_lt_of_cell? w _ hx460_0)).trans hx460_0
            replace hx460_1 := (HB.out.cell (World.block_lt_of_cell? w _ hx460_1)).trans hx460_1
            replace hx460_2 := (HB.out.cell (World.block_lt_of_cell? w _ hx460_2)).trans hx460_2
            replace p460 := eq_true p460
            replace q460 := eq_true q460
            have p461 : 0 ≤ (x3_2 : Int) := Pst.da
            have q461 : x3_2 < (l0_3.length : Int) := Pst.da
            obtain ⟨ad461, e461, hx461_0, hx461_1, hx461_2⟩ := at_T48 HR0_3.out x3_2 p461 q461
            obtain rfl : ad458 = ad461 := (by injection e461)
            replace hx461_0 := (HB.out.cell (World.block_lt_of_cell? w _ hx461_0)).trans hx461_0
            replace hx461_1 := (HB.out.cell (World.block_lt_of_cell? w _ hx461_1)).trans hx461_1
            replace hx461_2 := (HB.out.cell (World.block_lt_of_cell? w _ hx461_2)).trans hx461_2
            replace p461 := eq_true p461
            replace q461 := eq_true q461
            go_wp2
            repeat (go_quiet (fail); try go_wp2)
            go_roundg k3
            case measure => have := HJ1.out; have := HK2.out; have := HK3.out; omega
            case rel => exact ⟨(wrap64 (x4_3 + 1)), Pst.e2, H', ⟨by have := HJ1.out; have := HK2.out; have := HK3.out; omega⟩, ⟨by exact Pst.qb BK454.out⟩, ⟨Pst.bes⟩⟩
           rw [if_neg c31] at H
           exact absurd H (by simp)
          rw [if_neg c30] at H
          exact absurd H (by simp)
         rw [if_neg c29] at H
         exact absurd H (by simp)
        rw [if_neg c28] at H
        exact absurd H (by simp)
       rw [if_neg c27] at H
       have c27b0 : decide (x4_3 < x3_2) = false := decide_eq_false c27
       clear c27
       have H' := Pst.A H
       clear H
       go_wp2
       repeat (go_quiet (fail); try go_wp2)
       go_roundg k3
       case measure => have := HJ1.out; have := HK2.out; have := HK3.out; omega
       case rel => exact ⟨(wrap64 (x3_2 + 1)), Pst.e2, H', ⟨by have := HJ1.out; have := HK2.out; have := HK3.out; omega⟩, ⟨by exact Pst.qb BK454.out⟩, ⟨Pst.bes⟩⟩
     replace c24 := Bool.eq_false_iff.mpr c24
     subst c24
     rw [if_neg Pst.ft] at H
     obtain rfl := Option.some.inj H
     obtain ⟨hcz35_0, hcz35_1, hcz35_2, hcz35_3, hcz35_4, hcz35_5, hcz35_6, hcz35_7, hcz35_8, hcz35_9, hcz35_10, hcz35_11⟩ := Pst.c12 BK454.out
     obtain ⟨hfz35_0, hfz35_1, hfz35_2, hfz35_3, hfz35_4, hfz35_5, hfz35_6, hfz35_7, hfz35_8, hfz35_9, hfz35_10, hfz35_11⟩ := Pst.f12 BK454.out
     have p458 : 0 ≤ (x3_2 : Int) := Pst.da
     have q458 : x3_2 < (l0_3.length : Int) := Pst.da
     obtain ⟨ad458, e458, hx458_0, hx458_1, hx458_2⟩ := at_T48 HR0_3.out x3_2 p458 q458
     cases e458
     replace hx458_0 := (HB.out.cell (World.block_lt_of_cell? w _ hx458_0)).trans hx458_0
     replace hx458_1 := (HB.out.cell (World.block_lt_of_cell? w _ hx458_1)).trans hx458_1
     replace hx458_2 := (HB.out.cell (World.block_lt_of_cell? w _ hx458_2)).trans hx458_2
     replace p458 := eq_true p458
     replace q458 := eq_true q458
     go_wp2_with (first | (go_at_call 43; (with_reducible refine (spec_GoalOk.calls k2 ((rd_T48 l0_3 x3_2).f0) ((rd_T48 l0_3 x3_2).f1) ((rd_T48 l0_3 x3_2).f2) false _ A23.out).mono ?_); rintro e w36 ⟨rfl, hb⟩; replace BK454 := Pst.A (Pst.kb BK454.out hb); replace HB := Pst.A (below_step Pst.bes hb); (try clear hb); (try clear hb2); (try clear hk); (try clear hi)))
     repeat (go_quiet (first | (go_at_call 43; (with_reducible refine (spec_GoalOk.calls k2 ((rd_T48 l0_3 x3_2).f0) ((rd_T48 l0_3 x3_2).f1) ((rd_T48 l0_3 x3_2).f2) false _ A23.out).mono ?_); rintro e w36 ⟨rfl, hb⟩; replace BK454 := Pst.A (Pst.kb BK454.out hb); replace HB := Pst.A (below_step Pst.bes hb); (try clear hb); (try clear hb2); (try clear hk); (try clear hi))); try go_wp2_with (first | (go_at_call 43; (with_reducible refine (spec_GoalOk.calls k2 ((rd_T48 l0_3 x3_2).f0) ((rd_T48 l0_3 x3_2).f1) ((rd_T48 l0_3 x3_2).f2) false _ A23.out).mono ?_); rintro e w36 ⟨rfl, hb⟩; replace BK454 := Pst.A (Pst.kb BK454.out hb); replace HB := Pst.A (below_step Pst.bes hb); (try clear hb); (try clear hb2); (try clear hk); (try clear hi))))
     go_ret
     exact ⟨Pst.e1, Pst.bes⟩
    rw [if_neg c22] at H
    exact absurd H (by simp)
   rw [if_neg c21] at H
   have c21b0 : decide (x3_2 < (l0_3.length : Int)) = false := decide_eq_false c21
   clear c21
   obtain rfl := Option.some.inj H
   obtain ⟨hcz37_0, hcz37_1, hcz37_2, hcz37_3, hcz37_4, hcz37_5, hcz37_6, hcz37_7, hcz37_8, hcz37_9, hcz37_10, hcz37_11⟩ := Pst.c12 BK454.out
   obtain ⟨hfz37_0, hfz37_1, hfz37_2, hfz37_3, hfz37_4, hfz37_5, hfz37_6, hfz37_7, hfz37_8, hfz37_9, hfz37_10, hfz37_11⟩ := Pst.f12 BK454.out
   go_wp2
   repeat (go_quiet (fail); try go_wp2)
   go_ret
   exact ⟨Pst.e1, Pst.bes⟩
theorem spec_SetupOk.j0.st {x21 : Bool} {x455000 : Int} {x455001 : Int} {x455002 : Int} {x455003 : List (S48)} {x455004 : List (S101)} {x455005 : Int} {x455006 : Int} {x455007 : List (S101)} {x455008 : Int} {x455009 : Int} {x455010 : Int} {x455011 : Int} {r : (Bool)} (H : Ev (fun k => if x21 = true then (some false) else (spec_SetupOk.l0 k 0 x455000 x455001 x455002 x455003 x455004 x455005 x455006 x455007 x455008 x455009 x455010 x455011)) r) : Ev (fun k => spec_SetupOk.j0 k x21 x455000 x455001 x455002 x455003 x455004 x455005 x455006 x455007 x455008 x455009 x455010 x455011) r := Ev.step (fun k => spec_SetupOk.j0.eq_2 x21 x455000 x455001 x455002 x455003 x455004 x455005 x455006 x455007 x455008 x455009 x455010 x455011 k) H
theorem spec_SetupOk.l0.st {x3 : Int} {x455000 : Int} {x455001 : Int} {x455002 : Int} {x455003 : List (S48)} {x455004 : List (S101)} {x455005 : Int} {x455006 : Int} {x455007 : List (S101)} {x455008 : Int} {x455009 : Int} {x455010 : Int} {x455011 : Int} {r : (Bool)} (H : Ev (fun k => if x3 < (x455003.length : Int) then (if 0 ≤ x3 then ((spec_GoalOk.f k ((rd_T48 x455003 x3).f0) ((rd_T48 x455003 x3).f1) ((rd_T48 x455003 x3).f2)).bind fun t459 => (if t459 = true then (spec_SetupOk.l1 k x3 0 x455000 x455001 x455002 x455003 x455004 x455005 x455006 x455007 x455008 x455009 x455010 x455011) else (some false))) else (none)) else (some true)) r) : Ev (fun k => spec_SetupOk.l0 k x3 x455000 x455001 x455002 x455003 x455004 x455005 x455006 x455007 x455008 x455009 x455010 x455011) r := Ev.step (fun k => spec_SetupOk.l0.eq_2 x3 x455000 x455001 x455002 x455003 x455004 x455005 x455006 x455007 x455008 x455009 x455010 x455011 k) H
theorem spec_SetupOk.l1.st {x3 : Int} {x4 : Int} {x455000 : Int} {x455001 : Int} {x455002 : Int} {x455003 : List (S48)} {x455004 : List (S101)} {x455005 : Int} {x455006 : Int} {x455007 : List (S101)} {x455008 : Int} {x455009 : Int} {x455010 : Int} {x455011 : Int} {r : (Bool)} (H : Ev (fun k => if x4 < x3 then (if 0 ≤ x4 then (if x4 < (x455003.length : Int) then (if 0 ≤ x3 then (if x3 < (x455003.length : Int) then (if ((rd_T48 x455003 x4).f0).toList = ((rd_T48 x455003 x3).f0).toList then (some false) else (spec_SetupOk.l1 k x3 (wrap64 (x4 + 1)) x455000 x455001 x455002 x455003 x455004 x455005 x455006 x455007 x455008 x455009 x455010 x455011)) else (none)) else (none)) else (none)) else (none)) else (spec_SetupOk.l0 k (wrap64 (x3 + 1)) x455000 x455001 x455002 x455003 x455004 x455005 x455006 x455007 x455008 x455009 x455010 x455011)) r) : Ev (fun k => spec_SetupOk.l1 k x3 x4 x455000 x455001 x455002 x455003 x455004 x455005 x455006 x455007 x455008 x455009 x455010 x455011) r := Ev.step (fun k => spec_SetupOk.l1.eq_2 x3 x4 x455000 x455001 x455002 x455003 x455004 x455005 x455006 x455007 x455008 x455009 x455010 x455011 k) H

end Go.Proofs.YtidkiabehmdofaaGreatDoor.PA
