/- Functions of the program, of the reference and of the statements: each as a plain Lean function, and a proof that the machine's call answers what that one answers. Written by a program: the kit's print, with contracts of our own for what it does not take. No condition. -/
import Derived.Test.YtidkiabehmdofaaGreatDoorPAx0
import Derived.Test.YtidkiabehmdofaaGreatDoorPAx4
import Derived.Test.YtidkiabehmdofaaGreatDoorPAx5
namespace Go.Proofs.YtidkiabehmdofaaGreatDoor.PA
set_option maxHeartbeats 8000000
set_option maxRecDepth 100000
open Go.RowKit Go.Proofs.YtidkiabehmdofaaGreatDoorW.PrintWords Go.Proofs.YtidkiabehmdofaaGreatDoorW.PrintLast Go.Proofs.YtidkiabehmdofaaGreatDoorW.PrintMore
attribute [local go_sem] max2_int min2_int max_two min_two max_three min_three max_four min_four   -- for this text's walks alone
set_option linter.unusedVariables false
set_option linter.unusedSimpArgs false

/-! ### spec_WorldOk: function 8 -/
mutual
def spec_WorldOk.j0 : Nat → Bool → Int → Int → Int → List (S48) → List (S101) → Int → Int → List (S101) → Int → Int → Int → Int → List Int → Int → Int → Int → Option (Bool)
 | 0, _, _, _, _, _, _, _, _, _, _, _, _, _, _, _, _, _ => none
 | k + 1, x48, x463000, x463001, x463002, x463003, x463004, x463005, x463006, x463007, x463008, x463009, x463010, x463011, x463012, x463013, x463014, x463015 => if x48 = true then (some false) else (spec_WorldOk.l0 k 0 x463000 x463001 x463002 x463003 x463004 x463005 x463006 x463007 x463008 x463009 x463010 x463011 x463012 x463013 x463014 x463015)
def spec_WorldOk.l0 : Nat → Int → Int → Int → Int → List (S48) → List (S101) → Int → Int → List (S101) → Int → Int → Int → Int → List Int → Int → Int → Int → Option (Bool)
 | 0, _, _, _, _, _, _, _, _, _, _, _, _, _, _, _, _, _ => none
 | k + 1, x3, x463000, x463001, x463002, x463003, x463004, x463005, x463006, x463007, x463008, x463009, x463010, x463011, x463012, x463013, x463014, x463015 => if x3 < (x463012.length : Int) then (if 0 ≤ x3 then ((spec_l01In.f (rd x463012 x3) 0 100000).bind fun t470 => (if t470 = true then (spec_WorldOk.l0 k (wrap64 (x3 + 1)) x463000 x463001 x463002 x463003 x463004 x463005 x463006 x463007 x463008 x463009 x463010 x463011 x463012 x463013 x463014 x463015) else (some false))) else (none)) else (some true)
end
def spec_WorldOk.f (k : Nat) (a0_0 : Int) (a0_1 : Int) (a0_2 : Int) (l0_3 : List (S48)) (l0_4 : List (S101)) (a0_5 : Int) (a0_6 : Int) (l0_7 : List (S101)) (a0_8 : Int) (a0_9 : Int) (a0_10 : Int) (a0_11 : Int) (l0_12 : List Int) (a0_13 : Int) (a0_14 : Int) (a0_15 : Int) : Option (Bool) := (spec_SetupOk.f k a0_0 a0_1 a0_2 l0_3 l0_4 a0_5 a0_6 l0_7 a0_8 a0_9 a0_10 a0_11).bind fun t463 => (if t463 = true then (if (l0_3.length : Int) = 1 then (if 0 < (l0_3.length : Int) then (if ((rd_T48 l0_3 0).f0).toList = ([99, 112, 117] : List UInt8) then ((spec_l01In.f (l0_12.length : Int) 1 20).bind fun t465 => (if t465 = true then ((spec_l01In.f a0_13 0 50).bind fun t466 => (if t466 = true then ((spec_l01In.f a0_14 1 50).bind fun t467 => (if t467 = true then ((spec_l01In.f a0_15 1 12).bind fun t468 => (spec_WorldOk.j0 k (!t468) a0_0 a0_1 a0_2 l0_3 l0_4 a0_5 a0_6 l0_7 a0_8 a0_9 a0_10 a0_11 l0_12 a0_13 a0_14 a0_15)) else (spec_WorldOk.j0 k true a0_0 a0_1 a0_2 l0_3 l0_4 a0_5 a0_6 l0_7 a0_8 a0_9 a0_10 a0_11 l0_12 a0_13 a0_14 a0_15))) else (spec_WorldOk.j0 k true a0_0 a0_1 a0_2 l0_3 l0_4 a0_5 a0_6 l0_7 a0_8 a0_9 a0_10 a0_11 l0_12 a0_13 a0_14 a0_15))) else (spec_WorldOk.j0 k true a0_0 a0_1 a0_2 l0_3 l0_4 a0_5 a0_6 l0_7 a0_8 a0_9 a0_10 a0_11 l0_12 a0_13 a0_14 a0_15))) else (spec_WorldOk.j0 k true a0_0 a0_1 a0_2 l0_3 l0_4 a0_5 a0_6 l0_7 a0_8 a0_9 a0_10 a0_11 l0_12 a0_13 a0_14 a0_15)) else (none)) else (spec_WorldOk.j0 k true a0_0 a0_1 a0_2 l0_3 l0_4 a0_5 a0_6 l0_7 a0_8 a0_9 a0_10 a0_11 l0_12 a0_13 a0_14 a0_15)) else (spec_WorldOk.j0 k true a0_0 a0_1 a0_2 l0_3 l0_4 a0_5 a0_6 l0_7 a0_8 a0_9 a0_10 a0_11 l0_12 a0_13 a0_14 a0_15))
theorem spec_WorldOk.mono_l : ∀ k, (∀ y0 y1 y2 y3 y4 y5 y6 y7 y8 y9 y10 y11 y12 y13 y14 y15 y16, LeO (spec_WorldOk.j0 k y0 y1 y2 y3 y4 y5 y6 y7 y8 y9 y10 y11 y12 y13 y14 y15 y16) (spec_WorldOk.j0 (k + 1) y0 y1 y2 y3 y4 y5 y6 y7 y8 y9 y10 y11 y12 y13 y14 y15 y16)) ∧ (∀ y0 y1 y2 y3 y4 y5 y6 y7 y8 y9 y10 y11 y12 y13 y14 y15 y16, LeO (spec_WorldOk.l0 k y0 y1 y2 y3 y4 y5 y6 y7 y8 y9 y10 y11 y12 y13 y14 y15 y16) (spec_WorldOk.l0 (k + 1) y0 y1 y2 y3 y4 y5 y6 y7 y8 y9 y10 y11 y12 y13 y14 y15 y16))
 | 0 => ⟨fun _ _ _ _ _ _ _ _ _ _ _ _ _ _ _ _ _ r h => by simp [spec_WorldOk.j0] at h, fun _ _ _ _ _ _ _ _ _ _ _ _ _ _ _ _ _ r h => by simp [spec_WorldOk.l0] at h⟩
 | k + 1 => by
  obtain ⟨ih0, ih1⟩ := spec_WorldOk.mono_l k
  refine ⟨?_, ?_⟩
  ·intro y0 y1 y2 y3 y4 y5 y6 y7 y8 y9 y10 y11 y12 y13 y14 y15 y16
   unfold spec_WorldOk.j0
   have m0 := @spec_SetupOk.mono
   exact Pst.mo
  intro y0 y1 y2 y3 y4 y5 y6 y7 y8 y9 y10 y11 y12 y13 y14 y15 y16
  unfold spec_WorldOk.l0
  have m0 := @spec_SetupOk.mono
  exact Pst.mo
theorem spec_WorldOk.mono : ∀ a0 a1 a2 a3 a4 a5 a6 a7 a8 a9 a10 a11 a12 a13 a14 a15 k, LeO (spec_WorldOk.f k a0 a1 a2 a3 a4 a5 a6 a7 a8 a9 a10 a11 a12 a13 a14 a15) (spec_WorldOk.f (k + 1) a0 a1 a2 a3 a4 a5 a6 a7 a8 a9 a10 a11 a12 a13 a14 a15) := by
 intro a0 a1 a2 a3 a4 a5 a6 a7 a8 a9 a10 a11 a12 a13 a14 a15 k
 obtain ⟨ih0, ih1⟩ := spec_WorldOk.mono_l k
 unfold spec_WorldOk.f
 have m0 := @spec_SetupOk.mono
 exact Pst.mo
theorem spec_WorldOk.calls (k : Nat) (a0_0 : Int) (a0_1 : Int) (a0_2 : Int) (A0_3 : Option Addr) (c0_3 : Nat) (l0_3 : List (S48)) (A0_4 : Option Addr) (c0_4 : Nat) (l0_4 : List (S101)) (a0_5 : Int) (a0_6 : Int) (A0_7 : Option Addr) (c0_7 : Nat) (l0_7 : List (S101)) (a0_8 : Int) (a0_9 : Int) (a0_10 : Int) (a0_11 : Int) (A0_12 : Option Addr) (c0_12 : Nat) (l0_12 : List Int) (a0_13 : Int) (a0_14 : Int) (a0_15 : Int) (r : Bool) (w : World) (hr0_3 : Kd.C k48 w A0_3 l0_3.length l0_3) (hc0_3 : l0_3.length ≤ c0_3) (hr0_4 : Kd.C k101 w A0_4 l0_4.length l0_4) (hc0_4 : l0_4.length ≤ c0_4) (hr0_7 : Kd.C k101 w A0_7 l0_7.length l0_7) (hc0_7 : l0_7.length ≤ c0_7) (hr0_12 : Kd.C (Kd.int .i64) w A0_12 l0_12.length l0_12) (hc0_12 : l0_12.length ≤ c0_12) (h : spec_WorldOk.f k a0_0 a0_1 a0_2 l0_3 l0_4 a0_5 a0_6 l0_7 a0_8 a0_9 a0_10 a0_11 l0_12 a0_13 a0_14 a0_15 = some r) :
 Calls Tryz.prog 8 #[.agg #[.int .i64 a0_0, .int .i64 a0_1, .int .i64 a0_2, .slice A0_3 l0_3.length c0_3, .slice A0_4 l0_4.length c0_4, .int .i64 a0_5, .int .i64 a0_6, .slice A0_7 l0_7.length c0_7, .int .i64 a0_8, .int .i64 a0_9, .int .i64 a0_10, .int .i64 a0_11, .slice A0_12 l0_12.length c0_12, .int .i64 a0_13, .int .i64 a0_14, .int .i64 a0_15]] w fun e w' => e = .returned (.bool r) ∧ Below w.heap.size w w' := by
 have hu36 := Tryz.underlying36
 have hu33 := Tryz.underlying33
 have HR0_3 := Pst.A hr0_3
 have HC0_3 := Pst.A hc0_3
 clear hr0_3 hc0_3
 have HR0_4 := Pst.A hr0_4
 have HC0_4 := Pst.A hc0_4
 clear hr0_4 hc0_4
 have HR0_7 := Pst.A hr0_7
 have HC0_7 := Pst.A hc0_7
 clear hr0_7 hc0_7
 have HR0_12 := Pst.A hr0_12
 have HC0_12 := Pst.A hc0_12
 clear hr0_12 hc0_12
 have HB := Pst.A (Below.refl w.heap.size w)
 have H : ((spec_SetupOk.f k a0_0 a0_1 a0_2 l0_3 l0_4 a0_5 a0_6 l0_7 a0_8 a0_9 a0_10 a0_11).bind fun t463 => (if t463 = true then (if (l0_3.length : Int) = 1 then (if 0 < (l0_3.length : Int) then (if ((rd_T48 l0_3 0).f0).toList = ([99, 112, 117] : List UInt8) then ((spec_l01In.f (l0_12.length : Int) 1 20).bind fun t465 => (if t465 = true then ((spec_l01In.f a0_13 0 50).bind fun t466 => (if t466 = true then ((spec_l01In.f a0_14 1 50).bind fun t467 => (if t467 = true then ((spec_l01In.f a0_15 1 12).bind fun t468 => (spec_WorldOk.j0 k (!t468) a0_0 a0_1 a0_2 l0_3 l0_4 a0_5 a0_6 l0_7 a0_8 a0_9 a0_10 a0_11 l0_12 a0_13 a0_14 a0_15)) else (spec_WorldOk.j0 k true a0_0 a0_1 a0_2 l0_3 l0_4 a0_5 a0_6 l0_7 a0_8 a0_9 a0_10 a0_11 l0_12 a0_13 a0_14 a0_15))) else (spec_WorldOk.j0 k true a0_0 a0_1 a0_2 l0_3 l0_4 a0_5 a0_6 l0_7 a0_8 a0_9 a0_10 a0_11 l0_12 a0_13 a0_14 a0_15))) else (spec_WorldOk.j0 k true a0_0 a0_1 a0_2 l0_3 l0_4 a0_5 a0_6 l0_7 a0_8 a0_9 a0_10 a0_11 l0_12 a0_13 a0_14 a0_15))) else (spec_WorldOk.j0 k true a0_0 a0_1 a0_2 l0_3 l0_4 a0_5 a0_6 l0_7 a0_8 a0_9 a0_10 a0_11 l0_12 a0_13 a0_14 a0_15)) else (none)) else (spec_WorldOk.j0 k true a0_0 a0_1 a0_2 l0_3 l0_4 a0_5 a0_6 l0_7 a0_8 a0_9 a0_10 a0_11 l0_12 a0_13 a0_14 a0_15)) else (spec_WorldOk.j0 k true a0_0 a0_1 a0_2 l0_3 l0_4 a0_5 a0_6 l0_7 a0_8 a0_9 a0_10 a0_11 l0_12 a0_13 a0_14 a0_15))) = some r := h
 clear h
 have HC2 := Pst.A H
 clear H
 go_enter Tryz.func8, Tryz.ntmps8
 go_upto_region 1 with (first | ((with_reducible refine gate_dst (N := 1) rfl ?_); (try (refine gate_guard (by rfl) ?_; dsimp only)); refine Pst.bx 1 #[.int .i64 a0_0, .int .i64 a0_1, .int .i64 a0_2, .slice A0_3 l0_3.length c0_3, .slice A0_4 l0_4.length c0_4, .int .i64 a0_5, .int .i64 a0_6, .slice A0_7 l0_7.length c0_7, .int .i64 a0_8, .int .i64 a0_9, .int .i64 a0_10, .int .i64 a0_11, .slice A0_12 l0_12.length c0_12, .int .i64 a0_13, .int .i64 a0_14, .int .i64 a0_15] 36 ?_; intro gb462 hg w3 hbox hb; have BK462 := Pst.A hbox; have GW462 := Pst.A (Pst.gs hg : w.heap.size ≤ gb462); have GE462 := Pst.A (Pst.gs hg : w.heap.size ≤ gb462); replace HB := Pst.A (below_step Pst.bel hb); clear hb hbox hg))
 (try simp only [Act.put, List.setIfInBounds_toArray, List.set_cons_zero, List.set_cons_succ])
 go_cut [48] (fun v48 wc => ∃ (kq : Nat) (x48_1 : Bool), v48 = .bool x48_1 ∧ Aside0 (spec_WorldOk.j0 kq x48_1 a0_0 a0_1 a0_2 l0_3 l0_4 a0_5 a0_6 l0_7 a0_8 a0_9 a0_10 a0_11 l0_12 a0_13 a0_14 a0_15 = some r) ∧ Aside0 (kq ≤ k) ∧ Aside0 (wc.heap[gb462]? = some (.cells #[.int .i64 a0_0, .int .i64 a0_1, .int .i64 a0_2, (.slice A0_3 l0_3.length c0_3), (.slice A0_4 l0_4.length c0_4), .int .i64 a0_5, .int .i64 a0_6, (.slice A0_7 l0_7.length c0_7), .int .i64 a0_8, .int .i64 a0_9, .int .i64 a0_10, .int .i64 a0_11, (.slice A0_12 l0_12.length c0_12), .int .i64 a0_13, .int .i64 a0_14, .int .i64 a0_15] 36 (0, 0))) ∧ Aside0 (Below w.heap.size w wc))
 case first =>
  have H := HC2.out
  clear HC2
  obtain ⟨t463, A40, H⟩ := Pst.bd H
  have A4 := Pst.A A40
  clear A40
  by_cases c5 : t463 = true
  ·subst c5
   rw [if_pos rfl] at H
   by_cases c6 : (l0_3.length : Int) = 1
   ·rw [if_pos c6] at H
    have c6b0 : ((l0_3.length : Int) == 1) = true := beq_iff_eq.mpr c6
    have c6b1 : ((l0_3.length : Int) != 1) = false := bne_eq_false_iff_eq.mpr c6
    clear c6
    (first | rw [c6b0] | (simp only [i64_w, i32_w]; rw [c6b0]) | skip)
    by_cases c7 : 0 < (l0_3.length : Int)
    ·rw [if_pos c7] at H
     have c7b0 : decide (0 < (l0_3.length : Int)) = true := decide_eq_true c7
     have c7b1 : decide (0 < l0_3.length) = true := decide_eq_true (by omega)
     clear c7
     by_cases c8 : ((rd_T48 l0_3 0).f0).toList = ([99, 112, 117] : List UInt8)
     ·rw [if_pos c8] at H
      have c8b0 : (((rd_T48 l0_3 0).f0).toList == ([99, 112, 117] : List UInt8)) = true := beq_iff_eq.mpr c8
      have c8b1 : (((rd_T48 l0_3 0).f0).toList != ([99, 112, 117] : List UInt8)) = false := bne_eq_false_iff_eq.mpr c8
      clear c8
      obtain ⟨t465, A90, H⟩ := Pst.bd H
      have A9 := Pst.A A90
      clear A90
      by_cases c10 : t465 = true
      ·subst c10
       rw [if_pos rfl] at H
       obtain ⟨t466, A110, H⟩ := Pst.bd H
       have A11 := Pst.A A110
       clear A110
       by_cases c12 : t466 = true
       ·subst c12
        rw [if_pos rfl] at H
        obtain ⟨t467, A130, H⟩ := Pst.bd H
        have A13 := Pst.A A130
        clear A130
        by_cases c14 : t467 = true
        ·subst c14
         rw [if_pos rfl] at H
         obtain ⟨t468, A150, H⟩ := Pst.bd H
         have A15 := Pst.A A150
         clear A150
         have H' := Pst.A H
         clear H
         obtain ⟨hcz16_0, hcz16_1, hcz16_2, hcz16_3, hcz16_4, hcz16_5, hcz16_6, hcz16_7, hcz16_8, hcz16_9, hcz16_10, hcz16_11, hcz16_12, hcz16_13, hcz16_14, hcz16_15⟩ := Pst.c16 BK462.out
         obtain ⟨hfz16_0, hfz16_1, hfz16_2, hfz16_3, hfz16_4, hfz16_5, hfz16_6, hfz16_7, hfz16_8, hfz16_9, hfz16_10, hfz16_11, hfz16_12, hfz16_13, hfz16_14, hfz16_15⟩ := Pst.f16 BK462.out
         go_wp2_with (first | ((with_reducible refine gate_callee (f := 22) rfl ?_); refine goesL_ (some 6) rfl rfl Tryz.func22 (by kernel_rfl) rfl #[.agg #[.int .i64 a0_0, .int .i64 a0_1, .int .i64 a0_2, .slice A0_3 l0_3.length c0_3, .slice A0_4 l0_4.length c0_4, .int .i64 a0_5, .int .i64 a0_6, .slice A0_7 l0_7.length c0_7, .int .i64 a0_8, .int .i64 a0_9, .int .i64 a0_10, .int .i64 a0_11]] rfl Pst.ga ?_; (with_reducible refine (spec_SetupOk.calls k a0_0 a0_1 a0_2 _ _ l0_3 _ _ l0_4 a0_5 a0_6 _ _ l0_7 a0_8 a0_9 a0_10 a0_11 true _ ?side1 ?side2 ?side3 ?side4 ?side5 ?side6 A4.out).mono ?_); (case side1 => exact Pst.qc (Kd.C_below HR0_3.out HB.out)); (case side2 => exact HC0_3.out); (case side3 => exact Pst.qc (Kd.C_below HR0_4.out HB.out)); (case side4 => exact HC0_4.out); (case side5 => exact Pst.qc (Kd.C_below HR0_7.out HB.out)); (case side6 => exact HC0_7.out); rintro e w17 ⟨rfl, hb⟩; refine ⟨_, rfl, ?_⟩; replace BK462 := Pst.A (Pst.kb BK462.out hb); replace HB := Pst.A (below_step Pst.bes hb); (try clear hb); (try clear hb2); (try clear hk); (try clear hi); obtain ⟨hcz18_0, hcz18_1, hcz18_2, hcz18_3, hcz18_4, hcz18_5, hcz18_6, hcz18_7, hcz18_8, hcz18_9, hcz18_10, hcz18_11, hcz18_12, hcz18_13, hcz18_14, hcz18_15⟩ := Pst.c16 BK462.out; obtain ⟨hfz18_0, hfz18_1, hfz18_2, hfz18_3, hfz18_4, hfz18_5, hfz18_6, hfz18_7, hfz18_8, hfz18_9, hfz18_10, hfz18_11, hfz18_12, hfz18_13, hfz18_14, hfz18_15⟩ := Pst.f16 BK462.out; have p464 : 0 ≤ (0 : Int) := (by omega); have q464 : 0 < (l0_3.length : Int) := Pst.da; obtain ⟨ad464, e464, hx464_0, hx464_1, hx464_2⟩ := at_T48 HR0_3.out 0 p464 q464; cases e464; have qi464 : (0 < l0_3.length) = True := eq_true (by omega); (try rw [show ((0 : Int)).toNat = 0 from rfl] at hx464_0); (try rw [show 0 * 3 = 0 from rfl] at hx464_0); (try rw [Addr.add_zero'] at hx464_0); (try rw [show ((0 : Int)).toNat = 0 from rfl] at hx464_1); (try rw [show 0 * 3 = 0 from rfl] at hx464_1); (try rw [Addr.add_zero'] at hx464_1); (try rw [show ((0 : Int)).toNat = 0 from rfl] at hx464_2); (try rw [show 0 * 3 = 0 from rfl] at hx464_2); (try rw [Addr.add_zero'] at hx464_2); replace hx464_0 := (HB.out.cell (World.block_lt_of_cell? w _ hx464_0)).trans hx464_0; replace hx464_1 := (HB.out.cell (World.block_lt_of_cell? w _ hx464_1)).trans hx464_1; replace hx464_2 := (HB.out.cell (World.block_lt_of_cell? w _ hx464_2)).trans hx464_2; replace p464 := eq_true p464; replace q464 := eq_true q464) | (go_at_call 23; (with_reducible refine (spec_l01In.calls (l0_12.length : Int) 1 20 true _ A9.out).mono ?_); rintro e w' ⟨rfl, ⟨nd, rfl⟩⟩) | (go_at_call 23; (with_reducible refine (spec_l01In.calls a0_13 0 50 true _ A11.out).mono ?_); rintro e w' ⟨rfl, ⟨nd, rfl⟩⟩) | (go_at_call 23; (with_reducible refine (spec_l01In.calls a0_14 1 50 true _ A13.out).mono ?_); rintro e w' ⟨rfl, ⟨nd, rfl⟩⟩) | (go_at_call 23; (with_reducible refine (spec_l01In.calls a0_15 1 12 t468 _ A15.out).mono ?_); rintro e w' ⟨rfl, ⟨nd, rfl⟩⟩))
         go_meet
         case rel => exact ⟨_, (!t468), Pst.e2, H', ⟨by first | omega | exact Nat.le_refl _⟩, ⟨by exact Pst.qb BK462.out⟩, ⟨Pst.bes⟩⟩
        replace c14 := Bool.eq_false_iff.mpr c14
        subst c14
        rw [if_neg Pst.ft] at H
        have H' := Pst.A H
        clear H
        obtain ⟨hcz19_0, hcz19_1, hcz19_2, hcz19_3, hcz19_4, hcz19_5, hcz19_6, hcz19_7, hcz19_8, hcz19_9, hcz19_10, hcz19_11, hcz19_12, hcz19_13, hcz19_14, hcz19_15⟩ := Pst.c16 BK462.out
        obtain ⟨hfz19_0, hfz19_1, hfz19_2, hfz19_3, hfz19_4, hfz19_5, hfz19_6, hfz19_7, hfz19_8, hfz19_9, hfz19_10, hfz19_11, hfz19_12, hfz19_13, hfz19_14, hfz19_15⟩ := Pst.f16 BK462.out
        go_wp2_with (first | ((with_reducible refine gate_callee (f := 22) rfl ?_); refine goesL_ (some 6) rfl rfl Tryz.func22 (by kernel_rfl) rfl #[.agg #[.int .i64 a0_0, .int .i64 a0_1, .int .i64 a0_2, .slice A0_3 l0_3.length c0_3, .slice A0_4 l0_4.length c0_4, .int .i64 a0_5, .int .i64 a0_6, .slice A0_7 l0_7.length c0_7, .int .i64 a0_8, .int .i64 a0_9, .int .i64 a0_10, .int .i64 a0_11]] rfl Pst.ga ?_; (with_reducible refine (spec_SetupOk.calls k a0_0 a0_1 a0_2 _ _ l0_3 _ _ l0_4 a0_5 a0_6 _ _ l0_7 a0_8 a0_9 a0_10 a0_11 true _ ?side1 ?side2 ?side3 ?side4 ?side5 ?side6 A4.out).mono ?_); (case side1 => exact Pst.qc (Kd.C_below HR0_3.out HB.out)); (case side2 => exact HC0_3.out); (case side3 => exact Pst.qc (Kd.C_below HR0_4.out HB.out)); (case side4 => exact HC0_4.out); (case side5 => exact Pst.qc (Kd.C_below HR0_7.out HB.out)); (case side6 => exact HC0_7.out); rintro e w20 ⟨rfl, hb⟩; refine ⟨_, rfl, ?_⟩; replace BK462 := Pst.A (Pst.kb BK462.out hb); replace HB := Pst.A (below_step Pst.bes hb); (try clear hb); (try clear hb2); (try clear hk); (try clear hi); obtain ⟨hcz21_0, hcz21_1, hcz21_2, hcz21_3, hcz21_4, hcz21_5, hcz21_6, hcz21_7, hcz21_8, hcz21_9, hcz21_10, hcz21_11, hcz21_12, hcz21_13, hcz21_14, hcz21_15⟩ := Pst.c16 BK462.out; obtain ⟨hfz21_0, hfz21_1, hfz21_2, hfz21_3, hfz21_4, hfz21_5, hfz21_6, hfz21_7, hfz21_8, hfz21_9, hfz21_10, hfz21_11, hfz21_12, hfz21_13, hfz21_14, hfz21_15⟩ := Pst.f16 BK462.out; have p464 : 0 ≤ (0 : Int) := (by omega); have q464 : 0 < (l0_3.length : Int) := Pst.da; obtain ⟨ad464, e464, hx464_0, hx464_1, hx464_2⟩ := at_T48 HR0_3.out 0 p464 q464; cases e464; have qi464 : (0 < l0_3.length) = True := eq_true (by omega); (try rw [show ((0 : Int)).toNat = 0 from rfl] at hx464_0); (try rw [show 0 * 3 = 0 from rfl] at hx464_0); (try rw [Addr.add_zero'] at hx464_0); (try rw [show ((0 : Int)).toNat = 0 from rfl] at hx464_1); (try rw [show 0 * 3 = 0 from rfl] at hx464_1); (try rw [Addr.add_zero'] at hx464_1); (try rw [show ((0 : Int)).toNat = 0 from rfl] at hx464_2); (try rw [show 0 * 3 = 0 from rfl] at hx464_2); (try rw [Addr.add_zero'] at hx464_2); replace hx464_0 := (HB.out.cell (World.block_lt_of_cell? w _ hx464_0)).trans hx464_0; replace hx464_1 := (HB.out.cell (World.block_lt_of_cell? w _ hx464_1)).trans hx464_1; replace hx464_2 := (HB.out.cell (World.block_lt_of_cell? w _ hx464_2)).trans hx464_2; replace p464 := eq_true p464; replace q464 := eq_true q464) | (go_at_call 23; (with_reducible refine (spec_l01In.calls (l0_12.length : Int) 1 20 true _ A9.out).mono ?_); rintro e w' ⟨rfl, ⟨nd, rfl⟩⟩) | (go_at_call 23; (with_reducible refine (spec_l01In.calls a0_13 0 50 true _ A11.out).mono ?_); rintro e w' ⟨rfl, ⟨nd, rfl⟩⟩) | (go_at_call 23; (with_reducible refine (spec_l01In.calls a0_14 1 50 false _ A13.out).mono ?_); rintro e w' ⟨rfl, ⟨nd, rfl⟩⟩))
        go_meet
        case rel => exact ⟨_, (true), Pst.e2, H', ⟨by first | omega | exact Nat.le_refl _⟩, ⟨by exact Pst.qb BK462.out⟩, ⟨Pst.bes⟩⟩
       replace c12 := Bool.eq_false_iff.mpr c12
       subst c12
       rw [if_neg Pst.ft] at H
       have H' := Pst.A H
       clear H
       obtain ⟨hcz22_0, hcz22_1, hcz22_2, hcz22_3, hcz22_4, hcz22_5, hcz22_6, hcz22_7, hcz22_8, hcz22_9, hcz22_10, hcz22_11, hcz22_12, hcz22_13, hcz22_14, hcz22_15⟩ := Pst.c16 BK462.out
       obtain ⟨hfz22_0, hfz22_1, hfz22_2, hfz22_3, hfz22_4, hfz22_5, hfz22_6, hfz22_7, hfz22_8, hfz22_9, hfz22_10, hfz22_11, hfz22_12, hfz22_13, hfz22_14, hfz22_15⟩ := Pst.f16 BK462.out
       go_wp2_with (first | ((with_reducible refine gate_callee (f := 22) rfl ?_); refine goesL_ (some 6) rfl rfl Tryz.func22 (by kernel_rfl) rfl #[.agg #[.int .i64 a0_0, .int .i64 a0_1, .int .i64 a0_2, .slice A0_3 l0_3.length c0_3, .slice A0_4 l0_4.length c0_4, .int .i64 a0_5, .int .i64 a0_6, .slice A0_7 l0_7.length c0_7, .int .i64 a0_8, .int .i64 a0_9, .int .i64 a0_10, .int .i64 a0_11]] rfl Pst.ga ?_; (with_reducible refine (spec_SetupOk.calls k a0_0 a0_1 a0_2 _ _ l0_3 _ _ l0_4 a0_5 a0_6 _ _ l0_7 a0_8 a0_9 a0_10 a0_11 true _ ?side1 ?side2 ?side3 ?side4 ?side5 ?side6 A4.out).mono ?_); (case side1 => exact Pst.qc (Kd.C_below HR0_3.out HB.out)); (case side2 => exact HC0_3.out); (case side3 => exact Pst.qc (Kd.C_below HR0_4.out HB.out)); (case side4 => exact HC0_4.out); (case side5 => exact Pst.qc (Kd.C_below HR0_7.out HB.out)); (case side6 => exact HC0_7.out); rintro e w23 ⟨rfl, hb⟩; refine ⟨_, rfl, ?_⟩; replace BK462 := Pst.A (Pst.kb BK462.out hb); replace HB := Pst.A (below_step Pst.bes hb); (try clear hb); (try clear hb2); (try clear hk); (try clear hi); obtain ⟨hcz24_0, hcz24_1, hcz24_2, hcz24_3, hcz24_4, hcz24_5, hcz24_6, hcz24_7, hcz24_8, hcz24_9, hcz24_10, hcz24_11, hcz24_12, hcz24_13, hcz24_14, hcz24_15⟩ := Pst.c16 BK462.out; obtain ⟨hfz24_0, hfz24_1, hfz24_2, hfz24_3, hfz24_4, hfz24_5, hfz24_6, hfz24_7, hfz24_8, hfz24_9, hfz24_10, hfz24_11, hfz24_12, hfz24_13, hfz24_14, hfz24_15⟩ := Pst.f16 BK462.out; have p464 : 0 ≤ (0 : Int) := (by omega); have q464 : 0 < (l0_3.length : Int) := Pst.da; obtain ⟨ad464, e464, hx464_0, hx464_1, hx464_2⟩ := at_T48 HR0_3.out 0 p464 q464; cases e464; have qi464 : (0 < l0_3.length) = True := eq_true (by omega); (try rw [show ((0 : Int)).toNat = 0 from rfl] at hx464_0); (try rw [show 0 * 3 = 0 from rfl] at hx464_0); (try rw [Addr.add_zero'] at hx464_0); (try rw [show ((0 : Int)).toNat = 0 from rfl] at hx464_1); (try rw [show 0 * 3 = 0 from rfl] at hx464_1); (try rw [Addr.add_zero'] at hx464_1); (try rw [show ((0 : Int)).toNat = 0 from rfl] at hx464_2); (try rw [show 0 * 3 = 0 from rfl] at hx464_2); (try rw [Addr.add_zero'] at hx464_2); replace hx464_0 := (HB.out.cell (World.block_lt_of_cell? w _ hx464_0)).trans hx464_0; replace hx464_1 := (HB.out.cell (World.block_lt_of_cell? w _ hx464_1)).trans hx464_1; replace hx464_2 := (HB.out.cell (World.block_lt_of_cell? w _ hx464_2)).trans hx464_2; replace p464 := eq_true p464; replace q464 := eq_true q464) | (go_at_call 23; (with_reducible refine (spec_l01In.calls (l0_12.length : Int) 1 20 true _ A9.out).mono ?_); rintro e w' ⟨rfl, ⟨nd, rfl⟩⟩) | (go_at_call 23; (with_reducible refine (spec_l01In.calls a0_13 0 50 false _ A11.out).mono ?_); rintro e w' ⟨rfl, ⟨nd, rfl⟩⟩))
       go_meet
       case rel => exact ⟨_, (true), Pst.e2, H', ⟨by first | omega | exact Nat.le_refl _⟩, ⟨by exact Pst.qb BK462.out⟩, ⟨Pst.bes⟩⟩
      replace c10 := Bool.eq_false_iff.mpr c10
      subst c10
      rw [if_neg Pst.ft] at H
      have H' := Pst.A H
      clear H
      obtain ⟨hcz25_0, hcz25_1, hcz25_2, hcz25_3, hcz25_4, hcz25_5, hcz25_6, hcz25_7, hcz25_8, hcz25_9, hcz25_10, hcz25_11, hcz25_12, hcz25_13, hcz25_14, hcz25_15⟩ := Pst.c16 BK462.out
      obtain ⟨hfz25_0, hfz25_1, hfz25_2, hfz25_3, hfz25_4, hfz25_5, hfz25_6, hfz25_7, hfz25_8, hfz25_9, hfz25_10, hfz25_11, hfz25_12, hfz25_13, hfz25_14, hfz25_15⟩ := Pst.f16 BK462.out
      go_wp2_with (first | ((with_reducible refine gate_callee (f := 22) rfl ?_); refine goesL_ (some 6) rfl rfl Tryz.func22 (by kernel_rfl) rfl #[.agg #[.int .i64 a0_0, .int .i64 a0_1, .int .i64 a0_2, .slice A0_3 l0_3.length c0_3, .slice A0_4 l0_4.length c0_4, .int .i64 a0_5, .int .i64 a0_6, .slice A0_7 l0_7.length c0_7, .int .i64 a0_8, .int .i64 a0_9, .int .i64 a0_10, .int .i64 a0_11]] rfl Pst.ga ?_; (with_reducible refine (spec_SetupOk.calls k a0_0 a0_1 a0_2 _ _ l0_3 _ _ l0_4 a0_5 a0_6 _ _ l0_7 a0_8 a0_9 a0_10 a0_11 true _ ?side1 ?side2 ?side3 ?side4 ?side5 ?side6 A4.out).mono ?_); (case side1 => exact Pst.qc (Kd.C_below HR0_3.out HB.out)); (case side2 => exact HC0_3.out); (case side3 => exact Pst.qc (Kd.C_below HR0_4.out HB.out)); (case side4 => exact HC0_4.out); (case side5 => exact Pst.qc (Kd.C_below HR0_7.out HB.out)); (case side6 => exact HC0_7.out); rintro e w26 ⟨rfl, hb⟩; refine ⟨_, rfl, ?_⟩; replace BK462 := Pst.A (Pst.kb BK462.out hb); replace HB := Pst.A (below_step Pst.bes hb); (try clear hb); (try clear hb2); (try clear hk); (try clear hi); obtain ⟨hcz27_0, hcz27_1, hcz27_2, hcz27_3, hcz27_4, hcz27_5, hcz27_6, hcz27_7, hcz27_8, hcz27_9, hcz27_10, hcz27_11, hcz27_12, hcz27_13, hcz27_14, hcz27_15⟩ := Pst.c16 BK462.out; obtain ⟨hfz27_0, hfz27_1, hfz27_2, hfz27_3, hfz27_4, hfz27_5, hfz27_6, hfz27_7, hfz27_8, hfz27_9, hfz27_10, hfz27_11, hfz27_12, hfz27_13, hfz27_14, hfz27_15⟩ := Pst.f16 BK462.out; have p464 : 0 ≤ (0 : Int) := (by omega); have q464 : 0 < (l0_3.length : Int) := Pst.da; obtain ⟨ad464, e464, hx464_0, hx464_1, hx464_2⟩ := at_T48 HR0_3.out 0 p464 q464; cases e464; have qi464 : (0 < l0_3.length) = True := eq_true (by omega); (try rw [show ((0 : Int)).toNat = 0 from rfl] at hx464_0); (try rw [show 0 * 3 = 0 from rfl] at hx464_0); (try rw [Addr.add_zero'] at hx464_0); (try rw [show ((0 : Int)).toNat = 0 from rfl] at hx464_1); (try rw [show 0 * 3 = 0 from rfl] at hx464_1); (try rw [Addr.add_zero'] at hx464_1); (try rw [show ((0 : Int)).toNat = 0 from rfl] at hx464_2); (try rw [show 0 * 3 = 0 from rfl] at hx464_2); (try rw [Addr.add_zero'] at hx464_2); replace hx464_0 := (HB.out.cell (World.block_lt_of_cell? w _ hx464_0)).trans hx464_0; replace hx464_1 := (HB.out.cell (World.block_lt_of_cell? w _ hx464_1)).trans hx464_1; replace hx464_2 := (HB.out.cell (World.block_lt_of_cell? w _ hx464_2)).trans hx464_2; replace p464 := eq_true p464; replace q464 := eq_true q464) | (go_at_call 23; (with_reducible refine (spec_l01In.calls (l0_12.length : Int) 1 20 false _ A9.out).mono ?_); rintro e w' ⟨rfl, ⟨nd, rfl⟩⟩))
      go_meet
      case rel => exact ⟨_, (true), Pst.e2, H', ⟨by first | omega | exact Nat.le_refl _⟩, ⟨by exact Pst.qb BK462.out⟩, ⟨Pst.bes⟩⟩
     rw [if_neg c8] at H
     have c8b0 : (((rd_T48 l0_3 0).f0).toList == ([99, 112, 117] : List UInt8)) = false := beq_eq_false_iff_ne.mpr c8
     have c8b1 : (((rd_T48 l0_3 0).f0).toList != ([99, 112, 117] : List UInt8)) = true := bne_iff_ne.mpr c8
     have H' := Pst.A H
     clear H
     obtain ⟨hcz28_0, hcz28_1, hcz28_2, hcz28_3, hcz28_4, hcz28_5, hcz28_6, hcz28_7, hcz28_8, hcz28_9, hcz28_10, hcz28_11, hcz28_12, hcz28_13, hcz28_14, hcz28_15⟩ := Pst.c16 BK462.out
     obtain ⟨hfz28_0, hfz28_1, hfz28_2, hfz28_3, hfz28_4, hfz28_5, hfz28_6, hfz28_7, hfz28_8, hfz28_9, hfz28_10, hfz28_11, hfz28_12, hfz28_13, hfz28_14, hfz28_15⟩ := Pst.f16 BK462.out
     go_wp2_with (first | ((with_reducible refine gate_callee (f := 22) rfl ?_); refine goesL_ (some 6) rfl rfl Tryz.func22 (by kernel_rfl) rfl #[.agg #[.int .i64 a0_0, .int .i64 a0_1, .int .i64 a0_2, .slice A0_3 l0_3.length c0_3, .slice A0_4 l0_4.length c0_4, .int .i64 a0_5, .int .i64 a0_6, .slice A0_7 l0_7.length c0_7, .int .i64 a0_8, .int .i64 a0_9, .int .i64 a0_10, .int .i64 a0_11]] rfl Pst.ga ?_; (with_reducible refine (spec_SetupOk.calls k a0_0 a0_1 a0_2 _ _ l0_3 _ _ l0_4 a0_5 a0_6 _ _ l0_7 a0_8 a0_9 a0_10 a0_11 true _ ?side1 ?side2 ?side3 ?side4 ?side5 ?side6 A4.out).mono ?_); (case side1 => exact Pst.qc (Kd.C_below HR0_3.out HB.out)); (case side2 => exact HC0_3.out); (case side3 => exact Pst.qc (Kd.C_below HR0_4.out HB.out)); (case side4 => exact HC0_4.out); (case side5 => exact Pst.qc (Kd.C_below HR0_7.out HB.out)); (case side6 => exact HC0_7.out); rintro e w29 ⟨rfl, hb⟩; refine ⟨_, rfl, ?_⟩; replace BK462 := Pst.A (Pst.kb BK462.out hb); replace HB := Pst.A (below_step Pst.bes hb); (try clear hb); (try clear hb2); (try clear hk); (try clear hi); obtain ⟨hcz30_0, hcz30_1, hcz30_2, hcz30_3, hcz30_4, hcz30_5, hcz30_6, hcz30_7, hcz30_8, hcz30_9, hcz30_10, hcz30_11, hcz30_12, hcz30_13, hcz30_14, hcz30_15⟩ := Pst.c16 BK462.out; obtain ⟨hfz30_0, hfz30_1, hfz30_2, hfz30_3, hfz30_4, hfz30_5, hfz30_6, hfz30_7, hfz30_8, hfz30_9, hfz30_10, hfz30_11, hfz30_12, hfz30_13, hfz30_14, hfz30_15⟩ := Pst.f16 BK462.out; have p464 : 0 ≤ (0 : Int) := (by omega); have q464 : 0 < (l0_3.length : Int) := Pst.da; obtain ⟨ad464, e464, hx464_0, hx464_1, hx464_2⟩ := at_T48 HR0_3.out 0 p464 q464; cases e464; have qi464 : (0 < l0_3.length) = True := eq_true (by omega); (try rw [show ((0 : Int)).toNat = 0 from rfl] at hx464_0); (try rw [show 0 * 3 = 0 from rfl] at hx464_0); (try rw [Addr.add_zero'] at hx464_0); (try rw [show ((0 : Int)).toNat = 0 from rfl] at hx464_1); (try rw [show 0 * 3 = 0 from rfl] at hx464_1); (try rw [Addr.add_zero'] at hx464_1); (try rw [show ((0 : Int)).toNat = 0 from rfl] at hx464_2); (try rw [show 0 * 3 = 0 from rfl] at hx464_2); (try rw [Addr.add_zero'] at hx464_2); replace hx464_0 := (HB.out.cell (World.block_lt_of_cell? w _ hx464_0)).trans hx464_0; replace hx464_1 := (HB.out.cell (World.block_lt_of_cell? w _ hx464_1)).trans hx464_1; replace hx464_2 := (HB.out.cell (World.block_lt_of_cell? w _ hx464_2)).trans hx464_2; replace p464 := eq_true p464; replace q464 := eq_true q464))
     go_meet
     case rel => exact ⟨_, (true), Pst.e2, H', ⟨by first | omega | exact Nat.le_refl _⟩, ⟨by exact Pst.qb BK462.out⟩, ⟨Pst.bes⟩⟩
    rw [if_neg c7] at H
    exact absurd H (by simp)
   rw [if_neg c6] at H
   have c6b0 : ((l0_3.length : Int) == 1) = false := beq_eq_false_iff_ne.mpr c6
   have c6b1 : ((l0_3.length : Int) != 1) = true := bne_iff_ne.mpr c6
   (first | rw [c6b0] | (simp only [i64_w, i32_w]; rw [c6b0]) | skip)
   have H' := Pst.A H
   clear H
   obtain ⟨hcz31_0, hcz31_1, hcz31_2, hcz31_3, hcz31_4, hcz31_5, hcz31_6, hcz31_7, hcz31_8, hcz31_9, hcz31_10, hcz31_11, hcz31_12, hcz31_13, hcz31_14, hcz31_15⟩ := Pst.c16 BK462.out
   obtain ⟨hfz31_0, hfz31_1, hfz31_2, hfz31_3, hfz31_4, hfz31_5, hfz31_6, hfz31_7, hfz31_8, hfz31_9, hfz31_10, hfz31_11, hfz31_12, hfz31_13, hfz31_14, hfz31_15⟩ := Pst.f16 BK462.out
   go_wp2_with (first | ((with_reducible refine gate_callee (f := 22) rfl ?_); refine goesL_ (some 6) rfl rfl Tryz.func22 (by kernel_rfl) rfl #[.agg #[.int .i64 a0_0, .int .i64 a0_1, .int .i64 a0_2, .slice A0_3 l0_3.length c0_3, .slice A0_4 l0_4.length c0_4, .int .i64 a0_5, .int .i64 a0_6, .slice A0_7 l0_7.length c0_7, .int .i64 a0_8, .int .i64 a0_9, .int .i64 a0_10, .int .i64 a0_11]] rfl Pst.ga ?_; (with_reducible refine (spec_SetupOk.calls k a0_0 a0_1 a0_2 _ _ l0_3 _ _ l0_4 a0_5 a0_6 _ _ l0_7 a0_8 a0_9 a0_10 a0_11 true _ ?side1 ?side2 ?side3 ?side4 ?side5 ?side6 A4.out).mono ?_); (case side1 => exact Pst.qc (Kd.C_below HR0_3.out HB.out)); (case side2 => exact HC0_3.out); (case side3 => exact Pst.qc (Kd.C_below HR0_4.out HB.out)); (case side4 => exact HC0_4.out); (case side5 => exact Pst.qc (Kd.C_below HR0_7.out HB.out)); (case side6 => exact HC0_7.out); rintro e w32 ⟨rfl, hb⟩; refine ⟨_, rfl, ?_⟩; replace BK462 := Pst.A (Pst.kb BK462.out hb); replace HB := Pst.A (below_step Pst.bes hb); (try clear hb); (try clear hb2); (try clear hk); (try clear hi); obtain ⟨hcz33_0, hcz33_1, hcz33_2, hcz33_3, hcz33_4, hcz33_5, hcz33_6, hcz33_7, hcz33_8, hcz33_9, hcz33_10, hcz33_11, hcz33_12, hcz33_13, hcz33_14, hcz33_15⟩ := Pst.c16 BK462.out; obtain ⟨hfz33_0, hfz33_1, hfz33_2, hfz33_3, hfz33_4, hfz33_5, hfz33_6, hfz33_7, hfz33_8, hfz33_9, hfz33_10, hfz33_11, hfz33_12, hfz33_13, hfz33_14, hfz33_15⟩ := Pst.f16 BK462.out))
   go_meet
   case rel => exact ⟨_, (true), Pst.e2, H', ⟨by first | omega | exact Nat.le_refl _⟩, ⟨by exact Pst.qb BK462.out⟩, ⟨Pst.bes⟩⟩
  replace c5 := Bool.eq_false_iff.mpr c5
  subst c5
  rw [if_neg Pst.ft] at H
  have H' := Pst.A H
  clear H
  obtain ⟨hcz34_0, hcz34_1, hcz34_2, hcz34_3, hcz34_4, hcz34_5, hcz34_6, hcz34_7, hcz34_8, hcz34_9, hcz34_10, hcz34_11, hcz34_12, hcz34_13, hcz34_14, hcz34_15⟩ := Pst.c16 BK462.out
  obtain ⟨hfz34_0, hfz34_1, hfz34_2, hfz34_3, hfz34_4, hfz34_5, hfz34_6, hfz34_7, hfz34_8, hfz34_9, hfz34_10, hfz34_11, hfz34_12, hfz34_13, hfz34_14, hfz34_15⟩ := Pst.f16 BK462.out
  go_wp2_with (first | ((with_reducible refine gate_callee (f := 22) rfl ?_); refine goesL_ (some 6) rfl rfl Tryz.func22 (by kernel_rfl) rfl #[.agg #[.int .i64 a0_0, .int .i64 a0_1, .int .i64 a0_2, .slice A0_3 l0_3.length c0_3, .slice A0_4 l0_4.length c0_4, .int .i64 a0_5, .int .i64 a0_6, .slice A0_7 l0_7.length c0_7, .int .i64 a0_8, .int .i64 a0_9, .int .i64 a0_10, .int .i64 a0_11]] rfl Pst.ga ?_; (with_reducible refine (spec_SetupOk.calls k a0_0 a0_1 a0_2 _ _ l0_3 _ _ l0_4 a0_5 a0_6 _ _ l0_7 a0_8 a0_9 a0_10 a0_11 false _ ?side1 ?side2 ?side3 ?side4 ?side5 ?side6 A4.out).mono ?_); (case side1 => exact Pst.qc (Kd.C_below HR0_3.out HB.out)); (case side2 => exact HC0_3.out); (case side3 => exact Pst.qc (Kd.C_below HR0_4.out HB.out)); (case side4 => exact HC0_4.out); (case side5 => exact Pst.qc (Kd.C_below HR0_7.out HB.out)); (case side6 => exact HC0_7.out); rintro e w35 ⟨rfl, hb⟩; refine ⟨_, rfl, ?_⟩; replace BK462 := Pst.A (Pst.kb BK462.out hb); replace HB := Pst.A (below_step Pst.bes hb); (try clear hb); (try clear hb2); (try clear hk); (try clear hi)))
  go_meet
  case rel => exact ⟨_, (true), Pst.e2, H', ⟨by first | omega | exact Nat.le_refl _⟩, ⟨by exact Pst.qb BK462.out⟩, ⟨Pst.bes⟩⟩
 clear HC2
 try clear c1
 try clear c2
 try clear p2
 try clear p4
 try clear q4
 try clear hx4
 try clear qi4
 try clear c5
 try clear c6
 try clear c6b0
 try clear c6b1
 try clear c7
 try clear c7b0
 try clear c7b1
 try clear c8
 try clear c8b0
 try clear c8b1
 try clear c10
 try clear c12
 try clear c14
 try clear c22
 try clear hx464_0
 try clear hx464_1
 try clear hx464_2
 try clear p464
 try clear q464
 obtain ⟨kq, x48_1, rfl, HA, HJ1, BK462, HB⟩ := hcut
 cases kq with
 | zero => exact absurd HA.out (by simp [spec_WorldOk.j0])
 | succ kj1 =>
  have H := HA.out
  clear HA
  simp only [spec_WorldOk.j0] at H
  by_cases c36 : x48_1 = true
  ·subst c36
   rw [if_pos rfl] at H
   obtain rfl := Option.some.inj H
   go_wp2
   go_ret
   exact ⟨Pst.e1, Pst.bes⟩
  replace c36 := Bool.eq_false_iff.mpr c36
  subst c36
  rw [if_neg Pst.ft] at H
  have H' := Pst.A H
  clear H
  go_wp2
  go_loopg [3] kj1 (fun kq v3 w' => ∃ (x3_2 : Int), v3 = .int .i64 x3_2 ∧ Aside0 (spec_WorldOk.l0 kq x3_2 a0_0 a0_1 a0_2 l0_3 l0_4 a0_5 a0_6 l0_7 a0_8 a0_9 a0_10 a0_11 l0_12 a0_13 a0_14 a0_15 = some r) ∧ Aside0 (kq ≤ kj1) ∧ Aside0 (w'.heap[gb462]? = some (.cells #[.int .i64 a0_0, .int .i64 a0_1, .int .i64 a0_2, (.slice A0_3 l0_3.length c0_3), (.slice A0_4 l0_4.length c0_4), .int .i64 a0_5, .int .i64 a0_6, (.slice A0_7 l0_7.length c0_7), .int .i64 a0_8, .int .i64 a0_9, .int .i64 a0_10, .int .i64 a0_11, (.slice A0_12 l0_12.length c0_12), .int .i64 a0_13, .int .i64 a0_14, .int .i64 a0_15] 36 (0, 0))) ∧ Aside0 (Below w.heap.size w w'))
  case atStart => exact ⟨(0), Pst.e2, H', ⟨Nat.le_refl _⟩, ⟨by exact Pst.qb BK462.out⟩, ⟨Pst.bes⟩⟩
  clear H'
  try clear c1
  try clear c2
  try clear p2
  try clear c3
  try clear p4
  try clear q4
  try clear hx4
  try clear qi4
  try clear c5
  try clear c6
  try clear c6b0
  try clear c6b1
  try clear c7
  try clear c7b0
  try clear c7b1
  try clear c8
  try clear c8b0
  try clear c8b1
  try clear c10
  try clear c12
  try clear c14
  try clear c22
  try clear c36
  try clear hx464_0
  try clear hx464_1
  try clear hx464_2
  try clear p2
  try clear p4
  try clear p464
  try clear q4
  try clear q464
  obtain ⟨x3_2, rfl, HA, HK2, BK462, HB⟩ := hrel
  cases gk with
  | zero => exact absurd HA.out (by simp [spec_WorldOk.l0])
  | succ k2 =>
   have H := HA.out
   clear HA
   simp only [spec_WorldOk.l0] at H
   by_cases c37 : x3_2 < (l0_12.length : Int)
   ·rw [if_pos c37] at H
    have c37b0 : decide (x3_2 < (l0_12.length : Int)) = true := decide_eq_true c37
    clear c37
    by_cases c38 : 0 ≤ x3_2
    ·rw [if_pos c38] at H
     have c38b0 : decide (0 ≤ x3_2) = true := decide_eq_true c38
     clear c38
     obtain ⟨t470, A390, H⟩ := Pst.bd H
     have A39 := Pst.A A390
     clear A390
     by_cases c40 : t470 = true
     ·subst c40
      rw [if_pos rfl] at H
      have H' := Pst.A H
      clear H
      obtain ⟨hcz41_0, hcz41_1, hcz41_2, hcz41_3, hcz41_4, hcz41_5, hcz41_6, hcz41_7, hcz41_8, hcz41_9, hcz41_10, hcz41_11, hcz41_12, hcz41_13, hcz41_14, hcz41_15⟩ := Pst.c16 BK462.out
      obtain ⟨hfz41_0, hfz41_1, hfz41_2, hfz41_3, hfz41_4, hfz41_5, hfz41_6, hfz41_7, hfz41_8, hfz41_9, hfz41_10, hfz41_11, hfz41_12, hfz41_13, hfz41_14, hfz41_15⟩ := Pst.f16 BK462.out
      have p469 : 0 ≤ (x3_2 : Int) := Pst.da
      have q469 : x3_2 < (l0_12.length : Int) := Pst.da
      obtain ⟨ad469, e469, hx469_0⟩ := Kd.at_int HR0_12.out x3_2 p469 q469
      cases e469
      replace hx469_0 := (HB.out.cell (World.block_lt_of_cell? w _ hx469_0)).trans hx469_0
      replace p469 := eq_true p469
      replace q469 := eq_true q469
      go_wp2_with (first | ((with_reducible refine gate_callee (f := 23) rfl ?_); refine goesL_ (some 61) rfl rfl Tryz.func23 (by kernel_rfl) rfl #[.int .i64 (rd l0_12 x3_2), .int .i64 0, .int .i64 100000] rfl Pst.ga ?_; (with_reducible refine (spec_l01In.calls (rd l0_12 x3_2) 0 100000 true _ A39.out).mono ?_); rintro e w' ⟨rfl, ⟨nd, rfl⟩⟩; refine ⟨_, rfl, ?_⟩))
      go_roundg k2
      case measure => have := HJ1.out; have := HK2.out; omega
      case rel => exact ⟨(wrap64 (x3_2 + 1)), Pst.e2, H', ⟨by have := HJ1.out; have := HK2.out; omega⟩, ⟨by exact Pst.qb BK462.out⟩, ⟨Pst.bes⟩⟩
     replace c40 := Bool.eq_false_iff.mpr c40
     subst c40
     rw [if_neg Pst.ft] at H
     obtain rfl := Option.some.inj H
     obtain ⟨hcz42_0, hcz42_1, hcz42_2, hcz42_3, hcz42_4, hcz42_5, hcz42_6, hcz42_7, hcz42_8, hcz42_9, hcz42_10, hcz42_11, hcz42_12, hcz42_13, hcz42_14, hcz42_15⟩ := Pst.c16 BK462.out
     obtain ⟨hfz42_0, hfz42_1, hfz42_2, hfz42_3, hfz42_4, hfz42_5, hfz42_6, hfz42_7, hfz42_8, hfz42_9, hfz42_10, hfz42_11, hfz42_12, hfz42_13, hfz42_14, hfz42_15⟩ := Pst.f16 BK462.out
     have p469 : 0 ≤ (x3_2 : Int) := Pst.da
     have q469 : x3_2 < (l0_12.length : Int) := Pst.da
     obtain ⟨ad469, e469, hx469_0⟩ := Kd.at_int HR0_12.out x3_2 p469 q469
     cases e469
     replace hx469_0 := (HB.out.cell (World.block_lt_of_cell? w _ hx469_0)).trans hx469_0
     replace p469 := eq_true p469
     replace q469 := eq_true q469
     go_wp2_with (first | ((with_reducible refine gate_callee (f := 23) rfl ?_); refine goesL_ (some 61) rfl rfl Tryz.func23 (by kernel_rfl) rfl #[.int .i64 (rd l0_12 x3_2), .int .i64 0, .int .i64 100000] rfl Pst.ga ?_; (with_reducible refine (spec_l01In.calls (rd l0_12 x3_2) 0 100000 false _ A39.out).mono ?_); rintro e w' ⟨rfl, ⟨nd, rfl⟩⟩; refine ⟨_, rfl, ?_⟩))
     go_ret
     exact ⟨Pst.e1, Pst.bes⟩
    rw [if_neg c38] at H
    exact absurd H (by simp)
   rw [if_neg c37] at H
   have c37b0 : decide (x3_2 < (l0_12.length : Int)) = false := decide_eq_false c37
   clear c37
   obtain rfl := Option.some.inj H
   obtain ⟨hcz43_0, hcz43_1, hcz43_2, hcz43_3, hcz43_4, hcz43_5, hcz43_6, hcz43_7, hcz43_8, hcz43_9, hcz43_10, hcz43_11, hcz43_12, hcz43_13, hcz43_14, hcz43_15⟩ := Pst.c16 BK462.out
   obtain ⟨hfz43_0, hfz43_1, hfz43_2, hfz43_3, hfz43_4, hfz43_5, hfz43_6, hfz43_7, hfz43_8, hfz43_9, hfz43_10, hfz43_11, hfz43_12, hfz43_13, hfz43_14, hfz43_15⟩ := Pst.f16 BK462.out
   go_wp2
   go_ret
   exact ⟨Pst.e1, Pst.bes⟩
theorem spec_WorldOk.j0.st {x48 : Bool} {x463000 : Int} {x463001 : Int} {x463002 : Int} {x463003 : List (S48)} {x463004 : List (S101)} {x463005 : Int} {x463006 : Int} {x463007 : List (S101)} {x463008 : Int} {x463009 : Int} {x463010 : Int} {x463011 : Int} {x463012 : List Int} {x463013 : Int} {x463014 : Int} {x463015 : Int} {r : (Bool)} (H : Ev (fun k => if x48 = true then (some false) else (spec_WorldOk.l0 k 0 x463000 x463001 x463002 x463003 x463004 x463005 x463006 x463007 x463008 x463009 x463010 x463011 x463012 x463013 x463014 x463015)) r) : Ev (fun k => spec_WorldOk.j0 k x48 x463000 x463001 x463002 x463003 x463004 x463005 x463006 x463007 x463008 x463009 x463010 x463011 x463012 x463013 x463014 x463015) r := Ev.step (fun k => spec_WorldOk.j0.eq_2 x48 x463000 x463001 x463002 x463003 x463004 x463005 x463006 x463007 x463008 x463009 x463010 x463011 x463012 x463013 x463014 x463015 k) H
theorem spec_WorldOk.l0.st {x3 : Int} {x463000 : Int} {x463001 : Int} {x463002 : Int} {x463003 : List (S48)} {x463004 : List (S101)} {x463005 : Int} {x463006 : Int} {x463007 : List (S101)} {x463008 : Int} {x463009 : Int} {x463010 : Int} {x463011 : Int} {x463012 : List Int} {x463013 : Int} {x463014 : Int} {x463015 : Int} {r : (Bool)} (H : Ev (fun k => if x3 < (x463012.length : Int) then (if 0 ≤ x3 then ((spec_l01In.f (rd x463012 x3) 0 100000).bind fun t470 => (if t470 = true then (spec_WorldOk.l0 k (wrap64 (x3 + 1)) x463000 x463001 x463002 x463003 x463004 x463005 x463006 x463007 x463008 x463009 x463010 x463011 x463012 x463013 x463014 x463015) else (some false))) else (none)) else (some true)) r) : Ev (fun k => spec_WorldOk.l0 k x3 x463000 x463001 x463002 x463003 x463004 x463005 x463006 x463007 x463008 x463009 x463010 x463011 x463012 x463013 x463014 x463015) r := Ev.step (fun k => spec_WorldOk.l0.eq_2 x3 x463000 x463001 x463002 x463003 x463004 x463005 x463006 x463007 x463008 x463009 x463010 x463011 x463012 x463013 x463014 x463015 k) H

/-! ### spec_l01Num: function 20 -/
def spec_l01Num.l0 : Nat → Int → ByteArray → Bool → Option (ByteArray)
 | 0, _, _, _ => none
 | k + 1, x0, x3, x4 => if x0 = 0 then (if x4 = true then (if 1 + x3.size ≤ 9223372036854775807 then (some ((⟨#[45]⟩ : ByteArray) ++ x3)) else (none)) else (some x3)) else (if (Int.tmod x0 10) < 0 then ((some (([(wrap64 (48 + (wrap64 (-(Int.tmod x0 10))))) % 256] : List Int) : List Int)).bind fun y471 => (if (strOfNums y471).size + x3.size ≤ 9223372036854775807 then (spec_l01Num.l0 k (wrap64 (Int.tdiv x0 10)) ((strOfNums y471) ++ x3) x4) else (none))) else ((some (([(wrap64 (48 + (Int.tmod x0 10))) % 256] : List Int) : List Int)).bind fun y474 => (if (strOfNums y474).size + x3.size ≤ 9223372036854775807 then (spec_l01Num.l0 k (wrap64 (Int.tdiv x0 10)) ((strOfNums y474) ++ x3) x4) else (none))))
def spec_l01Num.f (k : Nat) (a0 : Int) : Option (ByteArray) := if a0 = 0 then (some (⟨#[48]⟩ : ByteArray)) else (spec_l01Num.l0 k a0 (⟨#[]⟩ : ByteArray) (decide (a0 < 0)))
theorem spec_l01Num.mono_l : ∀ k, (∀ y0 y1 y2, LeO (spec_l01Num.l0 k y0 y1 y2) (spec_l01Num.l0 (k + 1) y0 y1 y2))
 | 0 => fun _ _ _ r h => by simp [spec_l01Num.l0] at h
 | k + 1 => by
  have ih0 := spec_l01Num.mono_l k
  ·intro y0 y1 y2
   unfold spec_l01Num.l0
   exact Pst.mo
theorem spec_l01Num.mono : ∀ a0 k, LeO (spec_l01Num.f k a0) (spec_l01Num.f (k + 1) a0) := by
 intro a0 k
 have ih0 := spec_l01Num.mono_l k
 unfold spec_l01Num.f
 exact Pst.mo
theorem spec_l01Num.calls (k : Nat) (a0 : Int) (r : ByteArray) (w : World) (h : spec_l01Num.f k a0 = some r) :
    Calls Tryz.prog 20 #[.int .i64 a0] w fun e w' => e = .returned (.string r) ∧ Below w.heap.size w w' := by
 have HB := Pst.A (Below.refl w.heap.size w)
 have H : (if a0 = 0 then (some (⟨#[48]⟩ : ByteArray)) else (spec_l01Num.l0 k a0 (⟨#[]⟩ : ByteArray) (decide (a0 < 0)))) = some r := h
 clear h
 by_cases c2 : a0 = 0
 ·rw [if_pos c2] at H
  have c2b0 : (a0 == 0) = true := beq_iff_eq.mpr c2
  have c2b1 : (a0 != 0) = false := bne_eq_false_iff_eq.mpr c2
  clear c2
  obtain rfl := Option.some.inj H
  go_enter Tryz.func20, Tryz.ntmps20
  go_wp2
  go_ret
  exact ⟨Pst.e1, Pst.bel⟩
 ·rw [if_neg c2] at H
  have c2b0 : (a0 == 0) = false := beq_eq_false_iff_ne.mpr c2
  have c2b1 : (a0 != 0) = true := bne_iff_ne.mpr c2
  have H' := Pst.A H
  clear H
  go_enter Tryz.func20, Tryz.ntmps20
  go_wp2
  go_loopg [0, 3] k (fun kq v0 v3 w' => ∃ (x0_1 : Int) (x3_1 : ByteArray), v0 = .int .i64 x0_1 ∧ v3 = .string x3_1 ∧ Aside0 (spec_l01Num.l0 kq x0_1 x3_1 (decide (a0 < 0)) = some r) ∧ Aside0 (kq ≤ k) ∧ Aside0 (Below w.heap.size w w'))
  case atStart => exact ⟨(a0), ((⟨#[]⟩ : ByteArray)), Pst.e2, Pst.e2, H', ⟨Nat.le_refl _⟩, ⟨Pst.bel⟩⟩
  clear H'
  try clear c2
  try clear c2b0
  try clear c2b1
  try clear p2
  obtain ⟨x0_1, x3_1, rfl, rfl, HA, HK1, HB⟩ := hrel
  cases gk with
  | zero => exact absurd HA.out (by simp [spec_l01Num.l0])
  | succ k1 =>
   have H := HA.out
   clear HA
   simp only [spec_l01Num.l0] at H
   by_cases c3 : x0_1 = 0
   ·rw [if_pos c3] at H
    have c3b0 : (x0_1 == 0) = true := beq_iff_eq.mpr c3
    have c3b1 : (x0_1 != 0) = false := bne_eq_false_iff_eq.mpr c3
    clear c3
    by_cases c4 : (decide (a0 < 0)) = true
    ·rw [if_pos c4] at H
     have c4b0 : (decide (a0 < 0)) = true := c4
     have c4b9 : a0 < 0 := of_decide_eq_true c4b0
     have c4b8 : ¬ (0 ≤ a0) := Int.not_le.2 c4b9
     clear c4
     by_cases c5 : 1 + x3_1.size ≤ 9223372036854775807
     ·rw [if_pos c5] at H
      have c5b0 := eq_true c5
      have c5b1 : decide (1 + x3_1.size ≤ 9223372036854775807) = true := decide_eq_true c5
      try have c5b2 : (9223372036854775807 < 1 + x3_1.size) = False := eq_false (Nat.not_lt.2 c5)
      obtain rfl := Option.some.inj H
      go_wp2
      go_ret
      exact ⟨Pst.e1, Pst.bel⟩
     ·rw [if_neg c5] at H
      exact absurd H (by simp)
    ·rw [if_neg c4] at H
     have c4b0 : (decide (a0 < 0)) = false := by simpa using c4
     have c4b9 : ¬ a0 < 0 := of_decide_eq_false c4b0
     have c4b8 : 0 ≤ a0 := Int.not_lt.1 c4b9
     clear c4
     obtain rfl := Option.some.inj H
     go_wp2
     go_ret
     exact ⟨Pst.e1, Pst.bel⟩
   ·rw [if_neg c3] at H
    have c3b0 : (x0_1 == 0) = false := beq_eq_false_iff_ne.mpr c3
    have c3b1 : (x0_1 != 0) = true := bne_iff_ne.mpr c3
    by_cases c6 : (Int.tmod x0_1 10) < 0
    ·rw [if_pos c6] at H
     have c6b0 : decide ((Int.tmod x0_1 10) < 0) = true := decide_eq_true c6
     clear c6
     obtain ⟨y471, hy471⟩ : ∃ y_ : List Int, y_ = (([(wrap64 (48 + (wrap64 (-(Int.tmod x0_1 10))))) % 256] : List Int)) := ⟨_, rfl⟩
     replace H : (if (strOfNums y471).size + x3_1.size ≤ 9223372036854775807 then (spec_l01Num.l0 k1 (wrap64 (Int.tdiv x0_1 10)) ((strOfNums y471) ++ x3_1) (decide (a0 < 0))) else (none)) = some r := by first | (rw [hy471]; with_reducible exact H) | (have H2_ := (Option.bind_some _ _).symm.trans H; rw [hy471]; with_reducible exact H2_) | (have H2_ := (Option.bind_some _ _).symm.trans H; with_reducible exact H2_) | with_reducible exact H | (rw [hy471]; exact H) | exact H
     have Ny471 := Pst.A hy471
     clear hy471
     by_cases c7 : (strOfNums y471).size + x3_1.size ≤ 9223372036854775807
     ·rw [if_pos c7] at H
      have c7b0 := eq_true c7
      have c7b1 : decide ((strOfNums y471).size + x3_1.size ≤ 9223372036854775807) = true := decide_eq_true c7
      try have c7b2 : (9223372036854775807 < (strOfNums y471).size + x3_1.size) = False := eq_false (Nat.not_lt.2 c7)
      have H' := Pst.A H
      clear H
      go_wp2_with (first | ((with_reducible refine gate_dst (N := 21) rfl ?_); refine Kd.R_lit (Kd.int .u8) _ 5 ?hg (N := 21) ?hd (xs := ([(wrap64 (48 + (wrap64 (-(Int.tmod x0_1 10))))) % 256] : List Int)) (inner := [.int .u8 ((wrap64 (48 + (wrap64 (-(Int.tmod x0_1 10))))) % 256)]) (ok := fun _ => True) (okp := fun _ => True) ?hr ?hp (fun _ hk => hk) trivial (Below.refl _ _) (Nat.le_refl _) (by simp) ?_; (case hd => rfl); (case hg => rfl); (case hr => exact Pst.gr); (case hp => exact (Reps.one (show Kd.M (Kd.int .u8) _ _ _ ((wrap64 (48 + (wrap64 (-(Int.tmod x0_1 10))))) % 256) [.int .u8 ((wrap64 (48 + (wrap64 (-(Int.tmod x0_1 10))))) % 256)] from rfl) (Reps.none _ _))); intro v472 w8 ho9 hb hg_ hnew_; clear hg_ hnew_; (first | rw [← Ny471.out] at ho9 | (simp only [Int.reduceToNat] at ho9; rw [← Ny471.out] at ho9)); have HO473 := Pst.A (Kd.R_lower ho9 (below_size Pst.bel)); replace HB := Pst.A (below_step Pst.bel hb); clear hb ho9; have hcv10 := own_string (P := Tryz.prog) Tryz.underlying22 Tryz.underlying5 Tryz.underlying9 (Kd.own_of_R HO473.out)))
      go_roundg k1
      case measure => have := HK1.out; omega
      case rel => exact ⟨(wrap64 (Int.tdiv x0_1 10)), ((strOfNums y471) ++ x3_1), Pst.e2, Pst.e2, H', ⟨by have := HK1.out; omega⟩, ⟨Pst.bel⟩⟩
     ·rw [if_neg c7] at H
      exact absurd H (by simp)
    ·rw [if_neg c6] at H
     have c6b0 : decide ((Int.tmod x0_1 10) < 0) = false := decide_eq_false c6
     clear c6
     obtain ⟨y474, hy474⟩ : ∃ y_ : List Int, y_ = (([(wrap64 (48 + (Int.tmod x0_1 10))) % 256] : List Int)) := ⟨_, rfl⟩
     replace H : (if (strOfNums y474).size + x3_1.size ≤ 9223372036854775807 then (spec_l01Num.l0 k1 (wrap64 (Int.tdiv x0_1 10)) ((strOfNums y474) ++ x3_1) (decide (a0 < 0))) else (none)) = some r := by first | (rw [hy474]; with_reducible exact H) | (have H2_ := (Option.bind_some _ _).symm.trans H; rw [hy474]; with_reducible exact H2_) | (have H2_ := (Option.bind_some _ _).symm.trans H; with_reducible exact H2_) | with_reducible exact H | (rw [hy474]; exact H) | exact H
     have Ny474 := Pst.A hy474
     clear hy474
     by_cases c11 : (strOfNums y474).size + x3_1.size ≤ 9223372036854775807
     ·rw [if_pos c11] at H
      have c11b0 := eq_true c11
      have c11b1 : decide ((strOfNums y474).size + x3_1.size ≤ 9223372036854775807) = true := decide_eq_true c11
      try have c11b2 : (9223372036854775807 < (strOfNums y474).size + x3_1.size) = False := eq_false (Nat.not_lt.2 c11)
      have H' := Pst.A H
      clear H
      go_wp2_with (first | ((with_reducible refine gate_dst (N := 21) rfl ?_); refine Kd.R_lit (Kd.int .u8) _ 5 ?hg (N := 21) ?hd (xs := ([(wrap64 (48 + (Int.tmod x0_1 10))) % 256] : List Int)) (inner := [.int .u8 ((wrap64 (48 + (Int.tmod x0_1 10))) % 256)]) (ok := fun _ => True) (okp := fun _ => True) ?hr ?hp (fun _ hk => hk) trivial (Below.refl _ _) (Nat.le_refl _) (by simp) ?_; (case hd => rfl); (case hg => rfl); (case hr => exact Pst.gr); (case hp => exact (Reps.one (show Kd.M (Kd.int .u8) _ _ _ ((wrap64 (48 + (Int.tmod x0_1 10))) % 256) [.int .u8 ((wrap64 (48 + (Int.tmod x0_1 10))) % 256)] from rfl) (Reps.none _ _))); intro v475 w12 ho13 hb hg_ hnew_; clear hg_ hnew_; (first | rw [← Ny474.out] at ho13 | (simp only [Int.reduceToNat] at ho13; rw [← Ny474.out] at ho13)); have HO476 := Pst.A (Kd.R_lower ho13 (below_size Pst.bel)); replace HB := Pst.A (below_step Pst.bel hb); clear hb ho13; have hcv14 := own_string (P := Tryz.prog) Tryz.underlying22 Tryz.underlying5 Tryz.underlying9 (Kd.own_of_R HO476.out)))
      go_roundg k1
      case measure => have := HK1.out; omega
      case rel => exact ⟨(wrap64 (Int.tdiv x0_1 10)), ((strOfNums y474) ++ x3_1), Pst.e2, Pst.e2, H', ⟨by have := HK1.out; omega⟩, ⟨Pst.bel⟩⟩
     ·rw [if_neg c11] at H
      exact absurd H (by simp)
theorem spec_l01Num.l0.st {x0 : Int} {x3 : ByteArray} {x4 : Bool} {r : (ByteArray)} (H : Ev (fun k => if x0 = 0 then (if x4 = true then (if 1 + x3.size ≤ 9223372036854775807 then (some ((⟨#[45]⟩ : ByteArray) ++ x3)) else (none)) else (some x3)) else (if (Int.tmod x0 10) < 0 then ((some (([(wrap64 (48 + (wrap64 (-(Int.tmod x0 10))))) % 256] : List Int) : List Int)).bind fun y471 => (if (strOfNums y471).size + x3.size ≤ 9223372036854775807 then (spec_l01Num.l0 k (wrap64 (Int.tdiv x0 10)) ((strOfNums y471) ++ x3) x4) else (none))) else ((some (([(wrap64 (48 + (Int.tmod x0 10))) % 256] : List Int) : List Int)).bind fun y474 => (if (strOfNums y474).size + x3.size ≤ 9223372036854775807 then (spec_l01Num.l0 k (wrap64 (Int.tdiv x0 10)) ((strOfNums y474) ++ x3) x4) else (none))))) r) : Ev (fun k => spec_l01Num.l0 k x0 x3 x4) r := Ev.step (fun k => spec_l01Num.l0.eq_2 x0 x3 x4 k) H

/-! ### spec_l01Value: function 40 -/
def spec_l01Value.f (a0 : Int) : Option (Bool) := (spec_l01In.f a0 (-1000000000) 1000000000).bind fun t477 => (some t477)
theorem spec_l01Value.calls (a0 : Int) (r : Bool) (w : World) (h : spec_l01Value.f a0 = some r) :
    Calls Tryz.prog 40 #[.int .i64 a0] w fun e w' => e = .returned (.bool r) ∧ Drawn0 w w' := by
 have H : ((spec_l01In.f a0 (-1000000000) 1000000000).bind fun t477 => (some t477)) = some r := h
 clear h
 obtain ⟨t477, A20, H⟩ := Pst.bd H
 have A2 := Pst.A A20
 clear A20
 obtain rfl := Option.some.inj H
 go_enter Tryz.func40, Tryz.ntmps40
 go_wp2_with (first | ((with_reducible refine gate_callee (f := 23) rfl ?_); refine goesL_ (some 4) rfl rfl Tryz.func23 (by kernel_rfl) rfl #[.int .i64 a0, .int .i64 (-1000000000), .int .i64 1000000000] rfl Pst.ga ?_; (with_reducible refine (spec_l01In.calls a0 (-1000000000) 1000000000 t477 _ A2.out).mono ?_); rintro e w' ⟨rfl, ⟨nd, rfl⟩⟩; refine ⟨_, rfl, ?_⟩))
 go_ret
 exact ⟨Pst.e2, by repeat (first | exact Drawn0.refl _ | apply Drawn0.step)⟩

/-! ### spec_MilliText: function 21 -/
mutual
def spec_MilliText.j0 : Nat → Int → ByteArray → Option (ByteArray)
 | 0, _, _ => none
 | k + 1, x0, x3 => (spec_l01Num.f k (wrap64 (Int.tdiv x0 1000))).bind fun t479 => (if x3.size + t479.size ≤ 9223372036854775807 then (if (Int.tmod x0 1000) = 0 then (some (x3 ++ t479)) else (spec_MilliText.l0 k (x3 ++ t479) (([(wrap64 (48 + (wrap64 (Int.tdiv (Int.tmod x0 1000) 100)))) % 256, (wrap64 (48 + (wrap64 (Int.tdiv (Int.tmod x0 100) 10)))) % 256, (wrap64 (48 + (Int.tmod x0 10))) % 256] : List Int)) 3)) else (none))
def spec_MilliText.l0 : Nat → ByteArray → List Int → Int → Option (ByteArray)
 | 0, _, _, _ => none
 | k + 1, x3, x4, x5 => if 0 ≤ (wrap64 (x5 - 1)) then (if (wrap64 (x5 - 1)) < (x4.length : Int) then (if (rd x4 (wrap64 (x5 - 1))) = 48 then (spec_MilliText.l0 k x3 x4 (wrap64 (x5 - 1))) else (if x3.size + 1 ≤ 9223372036854775807 then (if 0 ≤ x5 then (if x5 ≤ (x4.length : Int) then ((some (x4.take (x5 : Int).toNat : List Int)).bind fun y484 => (if (x3 ++ (⟨#[46]⟩ : ByteArray)).size + (strOfNums y484).size ≤ 9223372036854775807 then (some ((x3 ++ (⟨#[46]⟩ : ByteArray)) ++ (strOfNums y484))) else (none))) else (none)) else (none)) else (none))) else (none)) else (none)
end
def spec_MilliText.f (k : Nat) (a0 : Int) : Option (ByteArray) := (spec_l01Value.f a0).bind fun t478 => (if t478 = true then (if a0 < 0 then (spec_MilliText.j0 k (wrap64 (-a0)) (⟨#[45]⟩ : ByteArray)) else (spec_MilliText.j0 k a0 (⟨#[]⟩ : ByteArray))) else (some (⟨#[]⟩ : ByteArray)))
theorem spec_MilliText.mono_l : ∀ k, (∀ y0 y1, LeO (spec_MilliText.j0 k y0 y1) (spec_MilliText.j0 (k + 1) y0 y1)) ∧ (∀ y0 y1 y2, LeO (spec_MilliText.l0 k y0 y1 y2) (spec_MilliText.l0 (k + 1) y0 y1 y2))
 | 0 => ⟨fun _ _ r h => by simp [spec_MilliText.j0] at h, fun _ _ _ r h => by simp [spec_MilliText.l0] at h⟩
 | k + 1 => by
  obtain ⟨ih0, ih1⟩ := spec_MilliText.mono_l k
  refine ⟨?_, ?_⟩
  ·intro y0 y1
   unfold spec_MilliText.j0
   have m0 := @spec_l01Num.mono
   exact Pst.mo
  intro y0 y1 y2
  unfold spec_MilliText.l0
  have m0 := @spec_l01Num.mono
  exact Pst.mo
theorem spec_MilliText.mono : ∀ a0 k, LeO (spec_MilliText.f k a0) (spec_MilliText.f (k + 1) a0) := by
 intro a0 k
 obtain ⟨ih0, ih1⟩ := spec_MilliText.mono_l k
 unfold spec_MilliText.f
 have m0 := @spec_l01Num.mono
 exact Pst.mo
theorem spec_MilliText.calls (k : Nat) (a0 : Int) (r : ByteArray) (w : World) (h : spec_MilliText.f k a0 = some r) :
 Calls Tryz.prog 21 #[.int .i64 a0] w fun e w' => e = .returned (.string r) ∧ Below w.heap.size w w' := by
 have HB := Pst.A (Below.refl w.heap.size w)
 have H : ((spec_l01Value.f a0).bind fun t478 => (if t478 = true then (if a0 < 0 then (spec_MilliText.j0 k (wrap64 (-a0)) (⟨#[45]⟩ : ByteArray)) else (spec_MilliText.j0 k a0 (⟨#[]⟩ : ByteArray))) else (some (⟨#[]⟩ : ByteArray)))) = some r := h
 clear h
 obtain ⟨t478, A20, H⟩ := Pst.bd H
 have A2 := Pst.A A20
 clear A20
 by_cases c3 : t478 = true
 ·subst c3
  rw [if_pos rfl] at H
  have HC4 := Pst.A H
  clear H
  go_enter Tryz.func21, Tryz.ntmps21
  go_upto_if 10 with (first | ((with_reducible refine gate_callee (f := 40) rfl ?_); refine goesL_ (some 7) rfl rfl Tryz.func40 (by kernel_rfl) rfl #[.int .i64 a0] rfl Pst.ga ?_; (with_reducible refine (spec_l01Value.calls a0 true _ A2.out).mono ?_); rintro e w' ⟨rfl, ⟨nd, rfl⟩⟩; refine ⟨_, rfl, ?_⟩))
  (try simp only [Act.put, List.setIfInBounds_toArray, List.set_cons_zero, List.set_cons_succ])
  go_cut [0, 3] (fun v0 v3 wc => ∃ (kq : Nat) (x0_3 : Int) (x3_3 : ByteArray), v0 = .int .i64 x0_3 ∧ v3 = .string x3_3 ∧ Aside0 (spec_MilliText.j0 kq x0_3 x3_3 = some r) ∧ Aside0 (kq ≤ k) ∧ Aside0 (Below w.heap.size w wc))
  case first =>
   have H := HC4.out
   clear HC4
   by_cases c5 : a0 < 0
   ·rw [if_pos c5] at H
    have c5b0 : decide (a0 < 0) = true := decide_eq_true c5
    clear c5
    (first | rw [c5b0] | (simp only [i64_w, i32_w]; rw [c5b0]) | skip)
    have H' := Pst.A H
    clear H
    go_wp2
    go_meet
    case rel => exact ⟨_, (wrap64 (-a0)), ((⟨#[45]⟩ : ByteArray)), Pst.e2, Pst.e2, H', ⟨by first | omega | exact Nat.le_refl _⟩, ⟨Pst.bel⟩⟩
   rw [if_neg c5] at H
   have c5b0 : decide (a0 < 0) = false := decide_eq_false c5
   clear c5
   (first | rw [c5b0] | (simp only [i64_w, i32_w]; rw [c5b0]) | skip)
   have H' := Pst.A H
   clear H
   go_wp2
   go_meet
   case rel => exact ⟨_, (a0), ((⟨#[]⟩ : ByteArray)), Pst.e2, Pst.e2, H', ⟨by first | omega | exact Nat.le_refl _⟩, ⟨Pst.bel⟩⟩
  clear HC4
  try clear c2
  try clear p2
  try clear c3
  try clear c4
  try clear c5
  try clear c5b0
  obtain ⟨kq, x0_3, x3_3, rfl, rfl, HA, HJ3, HB⟩ := hcut
  cases kq with
  | zero => exact absurd HA.out (by simp [spec_MilliText.j0])
  | succ kj3 =>
   have H := HA.out
   clear HA
   simp only [spec_MilliText.j0] at H
   obtain ⟨t479, A60, H⟩ := Pst.bd H
   have A6 := Pst.A A60
   clear A60
   by_cases c7 : x3_3.size + t479.size ≤ 9223372036854775807
   ·rw [if_pos c7] at H
    have c7b0 := eq_true c7
    have c7b1 : decide (x3_3.size + t479.size ≤ 9223372036854775807) = true := decide_eq_true c7
    try have c7b2 : (9223372036854775807 < x3_3.size + t479.size) = False := eq_false (Nat.not_lt.2 c7)
    by_cases c8 : (Int.tmod x0_3 1000) = 0
    ·rw [if_pos c8] at H
     have c8b0 : ((Int.tmod x0_3 1000) == 0) = true := beq_iff_eq.mpr c8
     have c8b1 : ((Int.tmod x0_3 1000) != 0) = false := bne_eq_false_iff_eq.mpr c8
     clear c8
     obtain rfl := Option.some.inj H
     go_wp2_with (first | ((with_reducible refine gate_callee (f := 20) rfl ?_); refine goesL_ (some 16) rfl rfl Tryz.func20 (by kernel_rfl) rfl #[.int .i64 (wrap64 (Int.tdiv x0_3 1000))] rfl Pst.ga ?_; (with_reducible refine (spec_l01Num.calls kj3 (wrap64 (Int.tdiv x0_3 1000)) t479 _ A6.out).mono ?_); rintro e w9 ⟨rfl, hb⟩; refine ⟨_, rfl, ?_⟩; replace HB := Pst.A (below_step Pst.bel hb); (try clear hb); (try clear hb2); (try clear hk); (try clear hi)))
     go_ret
     exact ⟨Pst.e1, Pst.bel⟩
    rw [if_neg c8] at H
    have c8b0 : ((Int.tmod x0_3 1000) == 0) = false := beq_eq_false_iff_ne.mpr c8
    have c8b1 : ((Int.tmod x0_3 1000) != 0) = true := bne_iff_ne.mpr c8
    obtain ⟨y480, hy480⟩ : ∃ y_ : List Int, y_ = (([(wrap64 (48 + (wrap64 (Int.tdiv (Int.tmod x0_3 1000) 100)))) % 256, (wrap64 (48 + (wrap64 (Int.tdiv (Int.tmod x0_3 100) 10)))) % 256, (wrap64 (48 + (Int.tmod x0_3 10))) % 256] : List Int)) := ⟨_, rfl⟩
    replace H : (spec_MilliText.l0 kj3 (x3_3 ++ t479) y480 3) = some r := by first | (rw [hy480]; with_reducible exact H) | (have H2_ := (Option.bind_some _ _).symm.trans H; rw [hy480]; with_reducible exact H2_) | (have H2_ := (Option.bind_some _ _).symm.trans H; with_reducible exact H2_) | with_reducible exact H | (rw [hy480]; exact H) | exact H
    have Ny480 := Pst.A hy480
    clear hy480
    have H' := Pst.A H
    clear H
    go_wp2_with (first | ((with_reducible refine gate_callee (f := 20) rfl ?_); refine goesL_ (some 16) rfl rfl Tryz.func20 (by kernel_rfl) rfl #[.int .i64 (wrap64 (Int.tdiv x0_3 1000))] rfl Pst.ga ?_; (with_reducible refine (spec_l01Num.calls kj3 (wrap64 (Int.tdiv x0_3 1000)) t479 _ A6.out).mono ?_); rintro e w10 ⟨rfl, hb⟩; refine ⟨_, rfl, ?_⟩; replace HB := Pst.A (below_step Pst.bel hb); (try clear hb); (try clear hb2); (try clear hk); (try clear hi)) | ((with_reducible refine gate_dst (N := 36) rfl ?_); refine Kd.R_lit (Kd.int .u8) _ 5 ?hg (N := 36) ?hd (xs := ([(wrap64 (48 + (wrap64 (Int.tdiv (Int.tmod x0_3 1000) 100)))) % 256, (wrap64 (48 + (wrap64 (Int.tdiv (Int.tmod x0_3 100) 10)))) % 256, (wrap64 (48 + (Int.tmod x0_3 10))) % 256] : List Int)) (inner := [.int .u8 ((wrap64 (48 + (wrap64 (Int.tdiv (Int.tmod x0_3 1000) 100)))) % 256), .int .u8 ((wrap64 (48 + (wrap64 (Int.tdiv (Int.tmod x0_3 100) 10)))) % 256), .int .u8 ((wrap64 (48 + (Int.tmod x0_3 10))) % 256)]) (ok := fun _ => True) (okp := fun _ => True) ?hr ?hp (fun _ hk => hk) trivial (Below.refl _ _) (Nat.le_refl _) (by simp) ?_; (case hd => rfl); (case hg => rfl); (case hr => exact Pst.gr); (case hp => exact (Reps.one (show Kd.M (Kd.int .u8) _ _ _ ((wrap64 (48 + (wrap64 (Int.tdiv (Int.tmod x0_3 1000) 100)))) % 256) [.int .u8 ((wrap64 (48 + (wrap64 (Int.tdiv (Int.tmod x0_3 1000) 100)))) % 256)] from rfl) (Reps.one (show Kd.M (Kd.int .u8) _ _ _ ((wrap64 (48 + (wrap64 (Int.tdiv (Int.tmod x0_3 100) 10)))) % 256) [.int .u8 ((wrap64 (48 + (wrap64 (Int.tdiv (Int.tmod x0_3 100) 10)))) % 256)] from rfl) (Reps.one (show Kd.M (Kd.int .u8) _ _ _ ((wrap64 (48 + (Int.tmod x0_3 10))) % 256) [.int .u8 ((wrap64 (48 + (Int.tmod x0_3 10))) % 256)] from rfl) (Reps.none _ _))))); intro v481 w11 ho12 hb hg_ hnew_; clear hg_ hnew_; (first | rw [← Ny480.out] at ho12 | (simp only [Int.reduceToNat] at ho12; rw [← Ny480.out] at ho12)); have HO482 := Pst.A (Kd.R_lower ho12 (below_size Pst.bel)); replace HB := Pst.A (below_step Pst.bel hb); clear hb ho12))
    go_loopg [5] kj3 (fun kq v5 w' => ∃ (x5_2 : Int), v5 = .int .i64 x5_2 ∧ Aside0 (spec_MilliText.l0 kq (x3_3 ++ t479) y480 x5_2 = some r) ∧ Aside0 (kq ≤ kj3) ∧ Aside0 (Kd.R (Kd.int .u8) 5 w' w.heap.size (fun _ => True) v481 y480) ∧ Aside0 (Below w.heap.size w w'))
    case atStart => exact ⟨(3), Pst.e2, H', ⟨Nat.le_refl _⟩, ⟨by (with_reducible repeat (first | apply Kd.R_alloc | apply Kd.R_drewN | apply Kd.R_drew)); exact HO482.out⟩, ⟨Pst.bel⟩⟩
    clear H'
    try clear c2
    try clear p2
    try clear c3
    try clear c4
    try clear c5
    try clear c5b0
    try clear p6
    try clear c7
    try clear c7b0
    try clear c7b1
    try clear c7b2
    try clear c8
    try clear c8b0
    try clear c8b1
    try clear p2
    obtain ⟨x5_2, rfl, HA, HK2, HO_4, HB⟩ := hrel
    cases gk with
    | zero => exact absurd HA.out (by simp [spec_MilliText.l0])
    | succ k2 =>
     have H := HA.out
     clear HA
     simp only [spec_MilliText.l0] at H
     obtain ⟨ji13, hji13⟩ : ∃ j_ : Int, (wrap64 (x5_2 - 1)) = j_ := ⟨_, rfl⟩
     replace H : (if 0 ≤ (ji13) then (if (ji13) < (y480.length : Int) then (if (rd y480 (ji13)) = 48 then (spec_MilliText.l0 k2 (x3_3 ++ t479) y480 ji13) else (if (x3_3 ++ t479).size + 1 ≤ 9223372036854775807 then (if 0 ≤ x5_2 then (if x5_2 ≤ (y480.length : Int) then ((some (y480.take (x5_2 : Int).toNat : List Int)).bind fun y484 => (if ((x3_3 ++ t479) ++ (⟨#[46]⟩ : ByteArray)).size + (strOfNums y484).size ≤ 9223372036854775807 then (some (((x3_3 ++ t479) ++ (⟨#[46]⟩ : ByteArray)) ++ (strOfNums y484))) else (none))) else (none)) else (none)) else (none))) else (none)) else (none)) = some r := by first | (rw [hji13] at H; exact H) | (simp only [hji13] at H ⊢; exact H)
     have hji13w : (IntKind.i64.wrap (x5_2 - 1)) = ji13 := (i64_w _).trans hji13
     by_cases c14 : 0 ≤ (ji13)
     ·rw [if_pos c14] at H
      have c14b0 : decide (0 ≤ (ji13)) = true := decide_eq_true c14
      clear c14
      by_cases c15 : (ji13) < (y480.length : Int)
      ·rw [if_pos c15] at H
       have c15b0 : decide ((ji13) < (y480.length : Int)) = true := decide_eq_true c15
       clear c15
       by_cases c16 : (rd y480 (ji13)) = 48
       ·rw [if_pos c16] at H
        have c16b0 : ((rd y480 (ji13)) == 48) = true := beq_iff_eq.mpr c16
        have c16b1 : ((rd y480 (ji13)) != 48) = false := bne_eq_false_iff_eq.mpr c16
        clear c16
        have H' := Pst.A H
        clear H
        obtain ⟨Ao17, co17, eo17⟩ := Kd.R_slice HO_4.out
        subst eo17
        have p483 : 0 ≤ ((ji13) : Int) := Pst.da
        have q483 : (ji13) < (y480.length : Int) := Pst.da
        obtain ⟨ad483, e483, hx483_0⟩ := Kd.at_int (Kd.R_reads' HO_4.out).2.2 (ji13) p483 q483
        cases e483
        replace p483 := eq_true p483
        replace q483 := eq_true q483
        go_wp2
        go_roundg k2
        case measure => have := HJ3.out; have := HK2.out; omega
        case rel => exact ⟨(ji13), (by first | rfl | (simp; done) | (simp only [← hji13] <;> (first | rfl | simp)) | (simp [*]; done)), H', ⟨by have := HJ3.out; have := HK2.out; omega⟩, ⟨by (with_reducible repeat (first | apply Kd.R_alloc | apply Kd.R_drewN | apply Kd.R_drew)); exact HO_4.out⟩, ⟨Pst.bel⟩⟩
       rw [if_neg c16] at H
       have c16b0 : ((rd y480 (ji13)) == 48) = false := beq_eq_false_iff_ne.mpr c16
       have c16b1 : ((rd y480 (ji13)) != 48) = true := bne_iff_ne.mpr c16
       by_cases c18 : (x3_3 ++ t479).size + 1 ≤ 9223372036854775807
       ·rw [if_pos c18] at H
        have c18b0 := eq_true c18
        have c18b1 : decide ((x3_3 ++ t479).size + 1 ≤ 9223372036854775807) = true := decide_eq_true c18
        try have c18b2 : (9223372036854775807 < (x3_3 ++ t479).size + 1) = False := eq_false (Nat.not_lt.2 c18)
        try have c18b3 : (9223372036854775807 < x3_3.size + t479.size + 1) = False := by rw [show x3_3.size + t479.size + 1 = (x3_3 ++ t479).size + 1 from (by first | (simp only [ByteArray.size_append]; done) | (simp only [ByteArray.size_append]; rfl) | rfl)]; exact c18b2
        by_cases c19 : 0 ≤ x5_2
        ·rw [if_pos c19] at H
         have c19b0 := eq_true c19
         have c19b1 : decide (0 ≤ x5_2) = true := decide_eq_true c19
         clear c19
         by_cases c20 : x5_2 ≤ (y480.length : Int)
         ·rw [if_pos c20] at H
          have c20b0 := eq_true c20
          have c20b1 : decide (x5_2 ≤ (y480.length : Int)) = true := decide_eq_true c20
          clear c20
          obtain ⟨y484, hy484⟩ : ∃ y_ : List Int, y_ = (y480.take (x5_2 : Int).toNat) := ⟨_, rfl⟩
          replace H : (if ((x3_3 ++ t479) ++ (⟨#[46]⟩ : ByteArray)).size + (strOfNums y484).size ≤ 9223372036854775807 then (some (((x3_3 ++ t479) ++ (⟨#[46]⟩ : ByteArray)) ++ (strOfNums y484))) else (none)) = some r := by first | (rw [hy484]; with_reducible exact H) | (have H2_ := (Option.bind_some _ _).symm.trans H; rw [hy484]; with_reducible exact H2_) | (have H2_ := (Option.bind_some _ _).symm.trans H; with_reducible exact H2_) | with_reducible exact H | (rw [hy484]; exact H) | exact H
          have Ny484 := Pst.A hy484
          clear hy484
          by_cases c21 : ((x3_3 ++ t479) ++ (⟨#[46]⟩ : ByteArray)).size + (strOfNums y484).size ≤ 9223372036854775807
          ·rw [if_pos c21] at H
           have c21b0 := eq_true c21
           have c21b1 : decide (((x3_3 ++ t479) ++ (⟨#[46]⟩ : ByteArray)).size + (strOfNums y484).size ≤ 9223372036854775807) = true := decide_eq_true c21
           try have c21b2 : (9223372036854775807 < ((x3_3 ++ t479) ++ (⟨#[46]⟩ : ByteArray)).size + (strOfNums y484).size) = False := eq_false (Nat.not_lt.2 c21)
           try have c21b3 : (9223372036854775807 < x3_3.size + t479.size + 1 + (strOfNums y484).size) = False := by rw [show x3_3.size + t479.size + 1 + (strOfNums y484).size = ((x3_3 ++ t479) ++ (⟨#[46]⟩ : ByteArray)).size + (strOfNums y484).size from (by first | (simp only [ByteArray.size_append]; done) | (simp only [ByteArray.size_append]; rfl) | rfl)]; exact c21b2
           obtain rfl := Option.some.inj H
           obtain ⟨Ao22, co22, eo22⟩ := Kd.R_slice HO_4.out
           subst eo22
           have p483 : 0 ≤ ((ji13) : Int) := Pst.da
           have q483 : (ji13) < (y480.length : Int) := Pst.da
           obtain ⟨ad483, e483, hx483_0⟩ := Kd.at_int (Kd.R_reads' HO_4.out).2.2 (ji13) p483 q483
           cases e483
           replace p483 := eq_true p483
           replace q483 := eq_true q483
           have q23 : (x5_2 : Int) ≤ ((y480.length : Int) : Int) := Pst.da
           obtain ⟨i023, hi023, _, hsz23, _⟩ := info_parts info5
           have hroom23 : y480.length ≤ co22 := (Kd.R_reads' HO_4.out).2.1
           have hC23 : Kd.C (Kd.int .u8) _ (some ad483) y480.length y480 := (Kd.R_reads' HO_4.out).2.2
           have hcut23 := cut_to (P := Tryz.prog) 22 5 .i64 Tryz.underlying22 hi023 (some ad483) y480.length co22 x5_2 (Pst.da) q23 hroom23
           have hr23 := Kd.C_take (m := (x5_2 : Int).toNat) hC23 (by omega)
           have hy23 : y484.length = (x5_2 : Int).toNat := (by rw [Ny484.out, List.length_take]; omega)
           rw [← Ny484.out] at hr23
           rw [← hy23] at hcut23
           have HR487 := Pst.A hr23
           have HC487 := Pst.A (show y484.length ≤ co22 from by omega)
           clear hr23 hC23 hroom23 hi023 hsz23
           have KY23 := Pst.A hy23
           clear hy23
           have KL23 := Pst.A (show (x5_2 : Int).toNat ≤ y480.length from by omega)
           replace q23 := eq_true q23
           have hcv24 := Kd.C_string (P := Tryz.prog) (A := (some ad483)) (c := co22) Tryz.underlying22 Tryz.underlying5 Tryz.underlying9 (by repeat (first | (with_reducible exact HR487.out) | (with_reducible refine Kd.C_alloc ?_ _) | (with_reducible refine Kd.C_drewN ?_ _) | (with_reducible refine Kd.C_drew ?_) | exact HR487.out))
           go_wp2
           go_ret
           exact ⟨by first | rfl | (simp [errW_none, errW_some] <;> rfl) | (simp only [← hji13]; first | rfl | (simp [errW_none, errW_some] <;> rfl)) | (simp [*, errW_none, errW_some] <;> rfl), Pst.bel⟩
          rw [if_neg c21] at H
          exact absurd H (by simp)
         rw [if_neg c20] at H
         exact absurd H (by simp)
        rw [if_neg c19] at H
        exact absurd H (by simp)
       rw [if_neg c18] at H
       exact absurd H (by simp)
      rw [if_neg c15] at H
      exact absurd H (by simp)
     rw [if_neg c14] at H
     exact absurd H (by simp)
   rw [if_neg c7] at H
   exact absurd H (by simp)
 replace c3 := Bool.eq_false_iff.mpr c3
 subst c3
 rw [if_neg Pst.ft] at H
 obtain rfl := Option.some.inj H
 go_enter Tryz.func21, Tryz.ntmps21
 go_wp2_with (first | ((with_reducible refine gate_callee (f := 40) rfl ?_); refine goesL_ (some 7) rfl rfl Tryz.func40 (by kernel_rfl) rfl #[.int .i64 a0] rfl Pst.ga ?_; (with_reducible refine (spec_l01Value.calls a0 false _ A2.out).mono ?_); rintro e w' ⟨rfl, ⟨nd, rfl⟩⟩; refine ⟨_, rfl, ?_⟩))
 go_ret
 exact ⟨Pst.e1, Pst.bel⟩
theorem spec_MilliText.j0.st {x0 : Int} {x3 : ByteArray} {r : (ByteArray)} (H : Ev (fun k => (spec_l01Num.f k (wrap64 (Int.tdiv x0 1000))).bind fun t479 => (if x3.size + t479.size ≤ 9223372036854775807 then (if (Int.tmod x0 1000) = 0 then (some (x3 ++ t479)) else (spec_MilliText.l0 k (x3 ++ t479) (([(wrap64 (48 + (wrap64 (Int.tdiv (Int.tmod x0 1000) 100)))) % 256, (wrap64 (48 + (wrap64 (Int.tdiv (Int.tmod x0 100) 10)))) % 256, (wrap64 (48 + (Int.tmod x0 10))) % 256] : List Int)) 3)) else (none))) r) : Ev (fun k => spec_MilliText.j0 k x0 x3) r := Ev.step (fun k => spec_MilliText.j0.eq_2 x0 x3 k) H
theorem spec_MilliText.l0.st {x3 : ByteArray} {x4 : List Int} {x5 : Int} {r : (ByteArray)} (H : Ev (fun k => if 0 ≤ (wrap64 (x5 - 1)) then (if (wrap64 (x5 - 1)) < (x4.length : Int) then (if (rd x4 (wrap64 (x5 - 1))) = 48 then (spec_MilliText.l0 k x3 x4 (wrap64 (x5 - 1))) else (if x3.size + 1 ≤ 9223372036854775807 then (if 0 ≤ x5 then (if x5 ≤ (x4.length : Int) then ((some (x4.take (x5 : Int).toNat : List Int)).bind fun y484 => (if (x3 ++ (⟨#[46]⟩ : ByteArray)).size + (strOfNums y484).size ≤ 9223372036854775807 then (some ((x3 ++ (⟨#[46]⟩ : ByteArray)) ++ (strOfNums y484))) else (none))) else (none)) else (none)) else (none))) else (none)) else (none)) r) : Ev (fun k => spec_MilliText.l0 k x3 x4 x5) r := Ev.step (fun k => spec_MilliText.l0.eq_2 x3 x4 x5 k) H

/-! ### spec_WorldText: function 7 -/
abbrev q0_7 : Array Bool := #[false, false, false, false, false, false, false, false, false, false, false, false, false, false, false]
abbrev q1_7 : Array Bool := #[true, false, false, false, false, false, false, false, false, false, false, false, false, false, false]
abbrev q2_7 : Array Bool := #[true, false, false, false, true, false, false, false, false, false, false, false, false, false, false]
abbrev q3_7 : Array Bool := #[true, false, false, false, true, false, false, false, false, true, false, false, false, false, false]
abbrev q4_7 : Array Bool := #[true, true, false, false, true, false, false, false, false, true, false, false, false, false, false]
abbrev q5_7 : Array Bool := #[true, true, false, false, true, true, false, false, false, true, false, false, false, false, false]
abbrev q6_7 : Array Bool := #[true, true, false, false, true, true, false, false, false, true, true, false, false, false, false]
abbrev q7_7 : Array Bool := #[true, true, true, false, true, true, false, false, false, true, true, false, false, false, false]
abbrev q8_7 : Array Bool := #[true, true, true, true, true, true, false, false, false, true, true, false, false, false, false]
abbrev q9_7 : Array Bool := #[true, true, true, true, true, true, true, false, false, true, true, false, false, false, false]
abbrev q10_7 : Array Bool := #[true, true, true, true, true, true, true, true, false, true, true, false, false, false, false]
abbrev q11_7 : Array Bool := #[true, true, true, true, true, true, true, true, true, true, true, false, false, false, false]
abbrev q12_7 : Array Bool := #[true, true, true, true, true, true, true, true, true, true, true, true, false, false, false]
abbrev q13_7 : Array Bool := #[true, true, true, true, true, true, true, true, true, true, true, true, true, false, false]
abbrev q14_7 : Array Bool := #[true, true, true, true, true, true, true, true, true, true, true, true, true, true, false]
abbrev q15_7 : Array Bool := #[true, true, true, true, true, true, true, true, true, true, true, true, true, true, true]
def spec_WorldText.l0 : Nat → ByteArray → Int → Int → Int → Int → List (S48) → List (S101) → Int → Int → List (S101) → Int → Int → Int → Int → List Int → Int → Int → Int → Option (ByteArray)
 | 0, _, _, _, _, _, _, _, _, _, _, _, _, _, _, _, _, _, _ => none
 | k + 1, x3, x4, x489000, x489001, x489002, x489003, x489004, x489005, x489006, x489007, x489008, x489009, x489010, x489011, x489012, x489013, x489014, x489015 => if x4 < (x489012.length : Int) then (if x3.size + 1 ≤ 9223372036854775807 then (if 0 ≤ x4 then ((spec_MilliText.f k (rd x489012 x4)).bind fun t494 => (if (x3 ++ (⟨#[32]⟩ : ByteArray)).size + t494.size ≤ 9223372036854775807 then (spec_WorldText.l0 k ((x3 ++ (⟨#[32]⟩ : ByteArray)) ++ t494) (wrap64 (x4 + 1)) x489000 x489001 x489002 x489003 x489004 x489005 x489006 x489007 x489008 x489009 x489010 x489011 x489012 x489013 x489014 x489015) else (none))) else (none)) else (none)) else (some x3)
def spec_WorldText.f (k : Nat) (a0_0 : Int) (a0_1 : Int) (a0_2 : Int) (l0_3 : List (S48)) (l0_4 : List (S101)) (a0_5 : Int) (a0_6 : Int) (l0_7 : List (S101)) (a0_8 : Int) (a0_9 : Int) (a0_10 : Int) (a0_11 : Int) (l0_12 : List Int) (a0_13 : Int) (a0_14 : Int) (a0_15 : Int) : Option (ByteArray) := (spec_WorldOk.f k a0_0 a0_1 a0_2 l0_3 l0_4 a0_5 a0_6 l0_7 a0_8 a0_9 a0_10 a0_11 l0_12 a0_13 a0_14 a0_15).bind fun t489 => (if t489 = true then ((spec_l01Num.f k a0_15).bind fun t490 => (if t490.size + 6 ≤ 9223372036854775807 then ((spec_l01Num.f k a0_13).bind fun t491 => (if (t490 ++ (⟨#[32, 119, 97, 114, 109, 32]⟩ : ByteArray)).size + t491.size ≤ 9223372036854775807 then (if ((t490 ++ (⟨#[32, 119, 97, 114, 109, 32]⟩ : ByteArray)) ++ t491).size + 6 ≤ 9223372036854775807 then ((spec_l01Num.f k a0_14).bind fun t492 => (if (((t490 ++ (⟨#[32, 119, 97, 114, 109, 32]⟩ : ByteArray)) ++ t491) ++ (⟨#[32, 101, 97, 99, 104, 32]⟩ : ByteArray)).size + t492.size ≤ 9223372036854775807 then (if ((((t490 ++ (⟨#[32, 119, 97, 114, 109, 32]⟩ : ByteArray)) ++ t491) ++ (⟨#[32, 101, 97, 99, 104, 32]⟩ : ByteArray)) ++ t492).size + 1 ≤ 9223372036854775807 then (spec_WorldText.l0 k (((((t490 ++ (⟨#[32, 119, 97, 114, 109, 32]⟩ : ByteArray)) ++ t491) ++ (⟨#[32, 101, 97, 99, 104, 32]⟩ : ByteArray)) ++ t492) ++ (⟨#[58]⟩ : ByteArray)) 0 a0_0 a0_1 a0_2 l0_3 l0_4 a0_5 a0_6 l0_7 a0_8 a0_9 a0_10 a0_11 l0_12 a0_13 a0_14 a0_15) else (none)) else (none))) else (none)) else (none))) else (none))) else (some (⟨#[]⟩ : ByteArray)))
theorem spec_WorldText.mono_l : ∀ k, (∀ y0 y1 y2 y3 y4 y5 y6 y7 y8 y9 y10 y11 y12 y13 y14 y15 y16 y17, LeO (spec_WorldText.l0 k y0 y1 y2 y3 y4 y5 y6 y7 y8 y9 y10 y11 y12 y13 y14 y15 y16 y17) (spec_WorldText.l0 (k + 1) y0 y1 y2 y3 y4 y5 y6 y7 y8 y9 y10 y11 y12 y13 y14 y15 y16 y17))
 | 0 => fun _ _ _ _ _ _ _ _ _ _ _ _ _ _ _ _ _ _ r h => by simp [spec_WorldText.l0] at h
 | k + 1 => by
  have ih0 := spec_WorldText.mono_l k
  intro y0 y1 y2 y3 y4 y5 y6 y7 y8 y9 y10 y11 y12 y13 y14 y15 y16 y17
  unfold spec_WorldText.l0
  have m0 := @spec_MilliText.mono
  have m1 := @spec_WorldOk.mono
  have m2 := @spec_l01Num.mono
  exact Pst.mo
theorem spec_WorldText.mono : ∀ a0 a1 a2 a3 a4 a5 a6 a7 a8 a9 a10 a11 a12 a13 a14 a15 k, LeO (spec_WorldText.f k a0 a1 a2 a3 a4 a5 a6 a7 a8 a9 a10 a11 a12 a13 a14 a15) (spec_WorldText.f (k + 1) a0 a1 a2 a3 a4 a5 a6 a7 a8 a9 a10 a11 a12 a13 a14 a15) := by
 intro a0 a1 a2 a3 a4 a5 a6 a7 a8 a9 a10 a11 a12 a13 a14 a15 k
 have ih0 := spec_WorldText.mono_l k
 unfold spec_WorldText.f
 have m0 := @spec_MilliText.mono
 have m1 := @spec_WorldOk.mono
 have m2 := @spec_l01Num.mono
 exact Pst.mo
def spec_WorldText.T3 : Bool × List (List Nat × List Nat) := (true, [([], []), ([0], [0]), ([1], [1]), ([2], [2]), ([], []), ([4], [4]), ([5, 2], [5]), ([3, 6], [3, 6]), ([7], [7]), ([], []), ([9], [9]), ([10, 6], [10]), ([8, 11], [8, 11]), ([12], [12]), ([13, 11, 0, 1, 2, 3, 4, 5, 6, 7, 8, 9, 10, 11, 12, 13], [13])])
def spec_WorldText.B3 : List Nat := [0, 1, 3, 7, 0, 16, 55, 127, 255, 0, 512, 1655, 4095, 8191, 16383]
theorem spec_WorldText.tab3 : rtab .any (opsOf Tryz.f7 3) = spec_WorldText.T3 := by kernel_rfl
theorem spec_WorldText.bits3 : waitsOk spec_WorldText.T3.2 spec_WorldText.B3 = true := by kernel_rfl
theorem spec_WorldText.calls (k : Nat) (a0_0 : Int) (a0_1 : Int) (a0_2 : Int) (A0_3 : Option Addr) (c0_3 : Nat) (l0_3 : List (S48)) (A0_4 : Option Addr) (c0_4 : Nat) (l0_4 : List (S101)) (a0_5 : Int) (a0_6 : Int) (A0_7 : Option Addr) (c0_7 : Nat) (l0_7 : List (S101)) (a0_8 : Int) (a0_9 : Int) (a0_10 : Int) (a0_11 : Int) (A0_12 : Option Addr) (c0_12 : Nat) (l0_12 : List Int) (a0_13 : Int) (a0_14 : Int) (a0_15 : Int) (r : ByteArray) (w : World) (hr0_3 : Kd.C k48 w A0_3 l0_3.length l0_3) (hc0_3 : l0_3.length ≤ c0_3) (hr0_4 : Kd.C k101 w A0_4 l0_4.length l0_4) (hc0_4 : l0_4.length ≤ c0_4) (hr0_7 : Kd.C k101 w A0_7 l0_7.length l0_7) (hc0_7 : l0_7.length ≤ c0_7) (hr0_12 : Kd.C (Kd.int .i64) w A0_12 l0_12.length l0_12) (hc0_12 : l0_12.length ≤ c0_12) (h : spec_WorldText.f k a0_0 a0_1 a0_2 l0_3 l0_4 a0_5 a0_6 l0_7 a0_8 a0_9 a0_10 a0_11 l0_12 a0_13 a0_14 a0_15 = some r) :
 Calls Tryz.prog 7 #[.agg #[.int .i64 a0_0, .int .i64 a0_1, .int .i64 a0_2, .slice A0_3 l0_3.length c0_3, .slice A0_4 l0_4.length c0_4, .int .i64 a0_5, .int .i64 a0_6, .slice A0_7 l0_7.length c0_7, .int .i64 a0_8, .int .i64 a0_9, .int .i64 a0_10, .int .i64 a0_11, .slice A0_12 l0_12.length c0_12, .int .i64 a0_13, .int .i64 a0_14, .int .i64 a0_15]] w fun e w' => e = .returned (.string r) ∧ Below w.heap.size w w' := by
 have hu36 := Tryz.underlying36
 have HR0_3 := Pst.A hr0_3
 have HC0_3 := Pst.A hc0_3
 clear hr0_3 hc0_3
 have HR0_4 := Pst.A hr0_4
 have HC0_4 := Pst.A hc0_4
 clear hr0_4 hc0_4
 have HR0_7 := Pst.A hr0_7
 have HC0_7 := Pst.A hc0_7
 clear hr0_7 hc0_7
 have HR0_12 := Pst.A hr0_12
 have HC0_12 := Pst.A hc0_12
 clear hr0_12 hc0_12
 have HB := Pst.A (Below.refl w.heap.size w)
 have H : ((spec_WorldOk.f k a0_0 a0_1 a0_2 l0_3 l0_4 a0_5 a0_6 l0_7 a0_8 a0_9 a0_10 a0_11 l0_12 a0_13 a0_14 a0_15).bind fun t489 => (if t489 = true then ((spec_l01Num.f k a0_15).bind fun t490 => (if t490.size + 6 ≤ 9223372036854775807 then ((spec_l01Num.f k a0_13).bind fun t491 => (if (t490 ++ (⟨#[32, 119, 97, 114, 109, 32]⟩ : ByteArray)).size + t491.size ≤ 9223372036854775807 then (if ((t490 ++ (⟨#[32, 119, 97, 114, 109, 32]⟩ : ByteArray)) ++ t491).size + 6 ≤ 9223372036854775807 then ((spec_l01Num.f k a0_14).bind fun t492 => (if (((t490 ++ (⟨#[32, 119, 97, 114, 109, 32]⟩ : ByteArray)) ++ t491) ++ (⟨#[32, 101, 97, 99, 104, 32]⟩ : ByteArray)).size + t492.size ≤ 9223372036854775807 then (if ((((t490 ++ (⟨#[32, 119, 97, 114, 109, 32]⟩ : ByteArray)) ++ t491) ++ (⟨#[32, 101, 97, 99, 104, 32]⟩ : ByteArray)) ++ t492).size + 1 ≤ 9223372036854775807 then (spec_WorldText.l0 k (((((t490 ++ (⟨#[32, 119, 97, 114, 109, 32]⟩ : ByteArray)) ++ t491) ++ (⟨#[32, 101, 97, 99, 104, 32]⟩ : ByteArray)) ++ t492) ++ (⟨#[58]⟩ : ByteArray)) 0 a0_0 a0_1 a0_2 l0_3 l0_4 a0_5 a0_6 l0_7 a0_8 a0_9 a0_10 a0_11 l0_12 a0_13 a0_14 a0_15) else (none)) else (none))) else (none)) else (none))) else (none))) else (some (⟨#[]⟩ : ByteArray)))) = some r := h
 clear h
 obtain ⟨t489, A20, H⟩ := Pst.bd H
 have A2 := Pst.A A20
 clear A20
 by_cases c3 : t489 = true
 ·subst c3
  rw [if_pos rfl] at H
  obtain ⟨t490, A40, H⟩ := Pst.bd H
  have A4 := Pst.A A40
  clear A40
  by_cases c5 : t490.size + 6 ≤ 9223372036854775807
  ·rw [if_pos c5] at H
   have c5b0 := eq_true c5
   have c5b1 : decide (t490.size + 6 ≤ 9223372036854775807) = true := decide_eq_true c5
   try have c5b2 : (9223372036854775807 < t490.size + 6) = False := eq_false (Nat.not_lt.2 c5)
   obtain ⟨t491, A60, H⟩ := Pst.bd H
   have A6 := Pst.A A60
   clear A60
   by_cases c7 : (t490 ++ (⟨#[32, 119, 97, 114, 109, 32]⟩ : ByteArray)).size + t491.size ≤ 9223372036854775807
   ·rw [if_pos c7] at H
    have c7b0 := eq_true c7
    have c7b1 : decide ((t490 ++ (⟨#[32, 119, 97, 114, 109, 32]⟩ : ByteArray)).size + t491.size ≤ 9223372036854775807) = true := decide_eq_true c7
    try have c7b2 : (9223372036854775807 < (t490 ++ (⟨#[32, 119, 97, 114, 109, 32]⟩ : ByteArray)).size + t491.size) = False := eq_false (Nat.not_lt.2 c7)
    try have c7b3 : (9223372036854775807 < t490.size + 6 + t491.size) = False := by rw [show t490.size + 6 + t491.size = (t490 ++ (⟨#[32, 119, 97, 114, 109, 32]⟩ : ByteArray)).size + t491.size from (by first | (simp only [ByteArray.size_append]; done) | (simp only [ByteArray.size_append]; rfl) | rfl)]; exact c7b2
    by_cases c8 : ((t490 ++ (⟨#[32, 119, 97, 114, 109, 32]⟩ : ByteArray)) ++ t491).size + 6 ≤ 9223372036854775807
    ·rw [if_pos c8] at H
     have c8b0 := eq_true c8
     have c8b1 : decide (((t490 ++ (⟨#[32, 119, 97, 114, 109, 32]⟩ : ByteArray)) ++ t491).size + 6 ≤ 9223372036854775807) = true := decide_eq_true c8
     try have c8b2 : (9223372036854775807 < ((t490 ++ (⟨#[32, 119, 97, 114, 109, 32]⟩ : ByteArray)) ++ t491).size + 6) = False := eq_false (Nat.not_lt.2 c8)
     try have c8b3 : (9223372036854775807 < t490.size + 6 + t491.size + 6) = False := by rw [show t490.size + 6 + t491.size + 6 = ((t490 ++ (⟨#[32, 119, 97, 114, 109, 32]⟩ : ByteArray)) ++ t491).size + 6 from (by first | (simp only [ByteArray.size_append]; done) | (simp only [ByteArray.size_append]; rfl) | rfl)]; exact c8b2
     obtain ⟨t492, A90, H⟩ := Pst.bd H
     have A9 := Pst.A A90
     clear A90
     by_cases c10 : (((t490 ++ (⟨#[32, 119, 97, 114, 109, 32]⟩ : ByteArray)) ++ t491) ++ (⟨#[32, 101, 97, 99, 104, 32]⟩ : ByteArray)).size + t492.size ≤ 9223372036854775807
     ·rw [if_pos c10] at H
      have c10b0 := eq_true c10
      have c10b1 : decide ((((t490 ++ (⟨#[32, 119, 97, 114, 109, 32]⟩ : ByteArray)) ++ t491) ++ (⟨#[32, 101, 97, 99, 104, 32]⟩ : ByteArray)).size + t492.size ≤ 9223372036854775807) = true := decide_eq_true c10
      try have c10b2 : (9223372036854775807 < (((t490 ++ (⟨#[32, 119, 97, 114, 109, 32]⟩ : ByteArray)) ++ t491) ++ (⟨#[32, 101, 97, 99, 104, 32]⟩ : ByteArray)).size + t492.size) = False := eq_false (Nat.not_lt.2 c10)
      try have c10b3 : (9223372036854775807 < t490.size + 6 + t491.size + 6 + t492.size) = False := by rw [show t490.size + 6 + t491.size + 6 + t492.size = (((t490 ++ (⟨#[32, 119, 97, 114, 109, 32]⟩ : ByteArray)) ++ t491) ++ (⟨#[32, 101, 97, 99, 104, 32]⟩ : ByteArray)).size + t492.size from (by first | (simp only [ByteArray.size_append]; done) | (simp only [ByteArray.size_append]; rfl) | rfl)]; exact c10b2
      by_cases c11 : ((((t490 ++ (⟨#[32, 119, 97, 114, 109, 32]⟩ : ByteArray)) ++ t491) ++ (⟨#[32, 101, 97, 99, 104, 32]⟩ : ByteArray)) ++ t492).size + 1 ≤ 9223372036854775807
      ·rw [if_pos c11] at H
       have c11b0 := eq_true c11
       have c11b1 : decide (((((t490 ++ (⟨#[32, 119, 97, 114, 109, 32]⟩ : ByteArray)) ++ t491) ++ (⟨#[32, 101, 97, 99, 104, 32]⟩ : ByteArray)) ++ t492).size + 1 ≤ 9223372036854775807) = true := decide_eq_true c11
       try have c11b2 : (9223372036854775807 < ((((t490 ++ (⟨#[32, 119, 97, 114, 109, 32]⟩ : ByteArray)) ++ t491) ++ (⟨#[32, 101, 97, 99, 104, 32]⟩ : ByteArray)) ++ t492).size + 1) = False := eq_false (Nat.not_lt.2 c11)
       try have c11b3 : (9223372036854775807 < t490.size + 6 + t491.size + 6 + t492.size + 1) = False := by rw [show t490.size + 6 + t491.size + 6 + t492.size + 1 = ((((t490 ++ (⟨#[32, 119, 97, 114, 109, 32]⟩ : ByteArray)) ++ t491) ++ (⟨#[32, 101, 97, 99, 104, 32]⟩ : ByteArray)) ++ t492).size + 1 from (by first | (simp only [ByteArray.size_append]; done) | (simp only [ByteArray.size_append]; rfl) | rfl)]; exact c11b2
       have H' := Pst.A H
       clear H
       go_enter Tryz.func7, Tryz.ntmps7
       try go_wp2_with (first | ((with_reducible refine gate_dst (N := 1) rfl ?_); refine Pst.bx 1 #[.int .i64 a0_0, .int .i64 a0_1, .int .i64 a0_2, .slice A0_3 l0_3.length c0_3, .slice A0_4 l0_4.length c0_4, .int .i64 a0_5, .int .i64 a0_6, .slice A0_7 l0_7.length c0_7, .int .i64 a0_8, .int .i64 a0_9, .int .i64 a0_10, .int .i64 a0_11, .slice A0_12 l0_12.length c0_12, .int .i64 a0_13, .int .i64 a0_14, .int .i64 a0_15] 36 ?_; intro gb488 hg w12 hbox hb; have BK488 := Pst.A hbox; have GW488 := Pst.A (Pst.gs hg : w.heap.size ≤ gb488); have GE488 := Pst.A (Pst.gs hg : w.heap.size ≤ gb488); replace HB := Pst.A (below_step Pst.bel hb); clear hb hbox hg; obtain ⟨hcz13_0, hcz13_1, hcz13_2, hcz13_3, hcz13_4, hcz13_5, hcz13_6, hcz13_7, hcz13_8, hcz13_9, hcz13_10, hcz13_11, hcz13_12, hcz13_13, hcz13_14, hcz13_15⟩ := Pst.c16 BK488.out; obtain ⟨hfz13_0, hfz13_1, hfz13_2, hfz13_3, hfz13_4, hfz13_5, hfz13_6, hfz13_7, hfz13_8, hfz13_9, hfz13_10, hfz13_11, hfz13_12, hfz13_13, hfz13_14, hfz13_15⟩ := Pst.f16 BK488.out) | ((with_reducible refine gate_callee (f := 8) rfl ?_); refine goesL_ (some 6) rfl rfl Tryz.func8 (by kernel_rfl) rfl #[.agg #[.int .i64 a0_0, .int .i64 a0_1, .int .i64 a0_2, .slice A0_3 l0_3.length c0_3, .slice A0_4 l0_4.length c0_4, .int .i64 a0_5, .int .i64 a0_6, .slice A0_7 l0_7.length c0_7, .int .i64 a0_8, .int .i64 a0_9, .int .i64 a0_10, .int .i64 a0_11, .slice A0_12 l0_12.length c0_12, .int .i64 a0_13, .int .i64 a0_14, .int .i64 a0_15]] rfl Pst.ga ?_; (with_reducible refine (spec_WorldOk.calls k a0_0 a0_1 a0_2 _ _ l0_3 _ _ l0_4 a0_5 a0_6 _ _ l0_7 a0_8 a0_9 a0_10 a0_11 _ _ l0_12 a0_13 a0_14 a0_15 true _ ?side1 ?side2 ?side3 ?side4 ?side5 ?side6 ?side7 ?side8 A2.out).mono ?_); (case side1 => exact Pst.qc (Kd.C_below HR0_3.out HB.out)); (case side2 => exact HC0_3.out); (case side3 => exact Pst.qc (Kd.C_below HR0_4.out HB.out)); (case side4 => exact HC0_4.out); (case side5 => exact Pst.qc (Kd.C_below HR0_7.out HB.out)); (case side6 => exact HC0_7.out); (case side7 => exact Pst.qc (Kd.C_below HR0_12.out HB.out)); (case side8 => exact HC0_12.out); rintro e w14 ⟨rfl, hb⟩; refine ⟨_, rfl, ?_⟩; replace BK488 := Pst.A (Pst.kb BK488.out hb); replace HB := Pst.A (below_step Pst.bes hb); (try clear hb); (try clear hb2); (try clear hk); (try clear hi)))
       replace BK488 := Pst.A (blk_drew BK488.out)
       replace HB := Pst.A (below_drew1 HB.out)
       refine start_ (n := 15) (S := fun w' => w'.cell? ⟨gb488, 0, none⟩ = some (.int .i64 a0_0) ∧ w'.cell? ⟨gb488, 1, none⟩ = some (.int .i64 a0_1) ∧ w'.cell? ⟨gb488, 2, none⟩ = some (.int .i64 a0_2) ∧ w'.cell? ⟨gb488, 3, none⟩ = some (.slice A0_3 l0_3.length c0_3) ∧ w'.cell? ⟨gb488, 4, none⟩ = some (.slice A0_4 l0_4.length c0_4) ∧ w'.cell? ⟨gb488, 5, none⟩ = some (.int .i64 a0_5) ∧ w'.cell? ⟨gb488, 6, none⟩ = some (.int .i64 a0_6) ∧ w'.cell? ⟨gb488, 7, none⟩ = some (.slice A0_7 l0_7.length c0_7) ∧ w'.cell? ⟨gb488, 8, none⟩ = some (.int .i64 a0_8) ∧ w'.cell? ⟨gb488, 9, none⟩ = some (.int .i64 a0_9) ∧ w'.cell? ⟨gb488, 10, none⟩ = some (.int .i64 a0_10) ∧ w'.cell? ⟨gb488, 11, none⟩ = some (.int .i64 a0_11) ∧ w'.cell? ⟨gb488, 12, none⟩ = some (.slice A0_12 l0_12.length c0_12) ∧ w'.cell? ⟨gb488, 13, none⟩ = some (.int .i64 a0_13) ∧ w'.cell? ⟨gb488, 14, none⟩ = some (.int .i64 a0_14) ∧ w'.cell? ⟨gb488, 15, none⟩ = some (.int .i64 a0_15)) (ds := []) q0_7 (by kernel_rfl) rfl rfl ⟨(blk_cell BK488.out 0).trans rfl, (blk_cell BK488.out 1).trans rfl, (blk_cell BK488.out 2).trans rfl, (blk_cell BK488.out 3).trans rfl, (blk_cell BK488.out 4).trans rfl, (blk_cell BK488.out 5).trans rfl, (blk_cell BK488.out 6).trans rfl, (blk_cell BK488.out 7).trans rfl, (blk_cell BK488.out 8).trans rfl, (blk_cell BK488.out 9).trans rfl, (blk_cell BK488.out 10).trans rfl, (blk_cell BK488.out 11).trans rfl, (blk_cell BK488.out 12).trans rfl, (blk_cell BK488.out 13).trans rfl, (blk_cell BK488.out 14).trans rfl, (blk_cell BK488.out 15).trans rfl⟩ (fun hHeld => ?_); refine with_tabW spec_WorldText.tab3 spec_WorldText.bits3 (fun HT_ HW_ => ?_)
       generalize w14.drew = w15 at BK488 HB hHeld ⊢
       refine pure_ (i := 0) (N := some 8) (v := ?_) (a' := ?_) q1_7 rfl rfl (any_of HT_.out (by kernel_rfl)) (fun _ _ _ h => h) (Or.inl ⟨by rfl, ?_⟩) ?_ ?_
       rotate_left
       ·intro w'
        go_simp
        with_reducible rfl
       rotate_left
       ·simp only [Pst.all]
        rfl
       refine pure_ (i := 4) (N := some 12) (v := ?_) (a' := ?_) q2_7 rfl rfl (any_of HT_.out (by kernel_rfl)) (fun _ _ _ h => h) (Or.inl ⟨by rfl, ?_⟩) ?_ ?_
       rotate_left
       ·intro w'
        go_simp
        with_reducible rfl
       rotate_left
       ·simp only [Pst.all]
        rfl
       refine pure_ (i := 9) (N := some 17) (v := ?_) (a' := ?_) q3_7 rfl rfl (any_of HT_.out (by kernel_rfl)) (fun _ _ _ h => h) (Or.inl ⟨by rfl, ?_⟩) ?_ ?_
       rotate_left
       ·intro w'
        go_simp
        with_reducible rfl
       rotate_left
       ·simp only [Pst.all]
        rfl
       refine take_ (i := 1) (N := some 9) (v := ?_) (a' := ?_) q4_7 rfl rfl (take_ofW HT_.out HW_.out (by kernel_rfl)) (fun _ _ _ h => h) (Or.inl ⟨by rfl, ?_⟩) hHeld ?_ ?_
       rotate_left
       ·rintro w' ⟨s0, s1, s2, s3, s4, s5, s6, s7, s8, s9, s10, s11, s12, s13, s14, s15⟩
        go_simp
        with_reducible rfl
       rotate_left
       ·simp only [Pst.all]
        rfl
       refine take_ (i := 5) (N := some 13) (v := ?_) (a' := ?_) q5_7 rfl rfl (take_ofW HT_.out HW_.out (by kernel_rfl)) (fun _ _ _ h => h) (Or.inl ⟨by rfl, ?_⟩) hHeld ?_ ?_
       rotate_left
       ·rintro w' ⟨s0, s1, s2, s3, s4, s5, s6, s7, s8, s9, s10, s11, s12, s13, s14, s15⟩
        go_simp
        with_reducible rfl
       rotate_left
       ·simp only [Pst.all]
        rfl
       refine take_ (i := 10) (N := some 18) (v := ?_) (a' := ?_) q6_7 rfl rfl (take_ofW HT_.out HW_.out (by kernel_rfl)) (fun _ _ _ h => h) (Or.inl ⟨by rfl, ?_⟩) hHeld ?_ ?_
       rotate_left
       ·rintro w' ⟨s0, s1, s2, s3, s4, s5, s6, s7, s8, s9, s10, s11, s12, s13, s14, s15⟩
        go_simp
        with_reducible rfl
       rotate_left
       ·simp only [Pst.all]
        rfl
       refine one_ (i := 2) (N := some 10) q7_7 rfl rfl (one_of HT_.out (by kernel_rfl)) (by decide) (fun K hK => ?_)
       refine goes_ Tryz.func20 (by kernel_rfl) rfl #[.int .i64 a0_15] (by rfl) rfl rfl Pst.ga ?_
       with_reducible refine (spec_l01Num.calls k a0_15 t490 _ A4.out).mono ?_
       rintro e w16 ⟨rfl, hb⟩
       refine ⟨_, rfl, ?_⟩
       replace BK488 := Pst.A (Pst.kb BK488.out hb)
       replace HB := Pst.A (below_step Pst.bes hb)
       (try clear hb)
       (try clear hb2)
       (try clear hk)
       (try clear hi)
       refine hK.out _ _ ⟨(blk_cell BK488.out 0).trans rfl, (blk_cell BK488.out 1).trans rfl, (blk_cell BK488.out 2).trans rfl, (blk_cell BK488.out 3).trans rfl, (blk_cell BK488.out 4).trans rfl, (blk_cell BK488.out 5).trans rfl, (blk_cell BK488.out 6).trans rfl, (blk_cell BK488.out 7).trans rfl, (blk_cell BK488.out 8).trans rfl, (blk_cell BK488.out 9).trans rfl, (blk_cell BK488.out 10).trans rfl, (blk_cell BK488.out 11).trans rfl, (blk_cell BK488.out 12).trans rfl, (blk_cell BK488.out 13).trans rfl, (blk_cell BK488.out 14).trans rfl, (blk_cell BK488.out 15).trans rfl⟩ (fun hHeld => ?_)
       clear hK K
       refine norm_ (a' := ?_) ?_ ?_
       rotate_left
       ·show Act.put _ (some 10) _ = _
        simp only [Pst.all]
        rfl
       refine pure_ (i := 3) (N := some 11) (v := ?_) (a' := ?_) q8_7 rfl rfl (any_of HT_.out (by kernel_rfl)) (fun _ _ _ h => h) (Or.inl ⟨by rfl, ?_⟩) ?_ ?_
       rotate_left
       ·intro w'
        go_simp
        with_reducible rfl
       rotate_left
       ·simp only [Pst.all]
        rfl
       refine one_ (i := 6) (N := some 14) q9_7 rfl rfl (one_of HT_.out (by kernel_rfl)) (by decide) (fun K hK => ?_)
       refine goes_ Tryz.func20 (by kernel_rfl) rfl #[.int .i64 a0_13] (by rfl) rfl rfl Pst.ga ?_
       with_reducible refine (spec_l01Num.calls k a0_13 t491 _ A6.out).mono ?_
       rintro e w17 ⟨rfl, hb⟩
       refine ⟨_, rfl, ?_⟩
       replace BK488 := Pst.A (Pst.kb BK488.out hb)
       replace HB := Pst.A (below_step Pst.bes hb)
       (try clear hb)
       (try clear hb2)
       (try clear hk)
       (try clear hi)
       refine hK.out _ _ ⟨(blk_cell BK488.out 0).trans rfl, (blk_cell BK488.out 1).trans rfl, (blk_cell BK488.out 2).trans rfl, (blk_cell BK488.out 3).trans rfl, (blk_cell BK488.out 4).trans rfl, (blk_cell BK488.out 5).trans rfl, (blk_cell BK488.out 6).trans rfl, (blk_cell BK488.out 7).trans rfl, (blk_cell BK488.out 8).trans rfl, (blk_cell BK488.out 9).trans rfl, (blk_cell BK488.out 10).trans rfl, (blk_cell BK488.out 11).trans rfl, (blk_cell BK488.out 12).trans rfl, (blk_cell BK488.out 13).trans rfl, (blk_cell BK488.out 14).trans rfl, (blk_cell BK488.out 15).trans rfl⟩ (fun hHeld => ?_)
       clear hK K
       refine norm_ (a' := ?_) ?_ ?_
       rotate_left
       ·show Act.put _ (some 14) _ = _
        simp only [Pst.all]
        rfl
       refine pure_ (i := 7) (N := some 15) (v := ?_) (a' := ?_) q10_7 rfl rfl (any_of HT_.out (by kernel_rfl)) (fun _ _ _ h => h) (Or.inl ⟨by rfl, ?_⟩) ?_ ?_
       rotate_left
       ·intro w'
        go_simp
        with_reducible rfl
       rotate_left
       ·simp only [Pst.all]
        rfl
       refine pure_ (i := 8) (N := some 16) (v := ?_) (a' := ?_) q11_7 rfl rfl (any_of HT_.out (by kernel_rfl)) (fun _ _ _ h => h) (Or.inl ⟨by rfl, ?_⟩) ?_ ?_
       rotate_left
       ·intro w'
        go_simp
        with_reducible rfl
       rotate_left
       ·simp only [Pst.all]
        rfl
       refine one_ (i := 11) (N := some 19) q12_7 rfl rfl (one_of HT_.out (by kernel_rfl)) (by decide) (fun K hK => ?_)
       refine goes_ Tryz.func20 (by kernel_rfl) rfl #[.int .i64 a0_14] (by rfl) rfl rfl Pst.ga ?_
       with_reducible refine (spec_l01Num.calls k a0_14 t492 _ A9.out).mono ?_
       rintro e w18 ⟨rfl, hb⟩
       refine ⟨_, rfl, ?_⟩
       replace BK488 := Pst.A (Pst.kb BK488.out hb)
       replace HB := Pst.A (below_step Pst.bes hb)
       (try clear hb)
       (try clear hb2)
       (try clear hk)
       (try clear hi)
       refine hK.out _ _ ⟨(blk_cell BK488.out 0).trans rfl, (blk_cell BK488.out 1).trans rfl, (blk_cell BK488.out 2).trans rfl, (blk_cell BK488.out 3).trans rfl, (blk_cell BK488.out 4).trans rfl, (blk_cell BK488.out 5).trans rfl, (blk_cell BK488.out 6).trans rfl, (blk_cell BK488.out 7).trans rfl, (blk_cell BK488.out 8).trans rfl, (blk_cell BK488.out 9).trans rfl, (blk_cell BK488.out 10).trans rfl, (blk_cell BK488.out 11).trans rfl, (blk_cell BK488.out 12).trans rfl, (blk_cell BK488.out 13).trans rfl, (blk_cell BK488.out 14).trans rfl, (blk_cell BK488.out 15).trans rfl⟩ (fun hHeld => ?_)
       clear hK K
       refine norm_ (a' := ?_) ?_ ?_
       rotate_left
       ·show Act.put _ (some 19) _ = _
        simp only [Pst.all]
        rfl
       refine pure_ (i := 12) (N := some 20) (v := ?_) (a' := ?_) q13_7 rfl rfl (any_of HT_.out (by kernel_rfl)) (fun _ _ _ h => h) (Or.inl ⟨by rfl, ?_⟩) ?_ ?_
       rotate_left
       ·intro w'
        go_simp
        with_reducible rfl
       rotate_left
       ·simp only [Pst.all]
        rfl
       refine pure_ (i := 13) (N := some 21) (v := ?_) (a' := ?_) q14_7 rfl rfl (any_of HT_.out (by kernel_rfl)) (fun _ _ _ h => h) (Or.inl ⟨by rfl, ?_⟩) ?_ ?_
       rotate_left
       ·intro w'
        go_simp
        with_reducible rfl
       rotate_left
       ·simp only [Pst.all]
        rfl
       refine pure_ (i := 14) (N := some 3) (v := ?_) (a' := ?_) q15_7 rfl rfl (any_of HT_.out (by kernel_rfl)) (fun _ _ _ h => h) (Or.inl ⟨by rfl, ?_⟩) ?_ ?_
       rotate_left
       ·intro w'
        go_simp
        with_reducible rfl
       rotate_left
       ·simp only [Pst.all]
        rfl
       refine done_ (done_of HT_.out (by kernel_rfl)) ?_
       try go_wp2
       go_loopg [3, 4] k (fun kq v3 v4 w' => ∃ (x3_1 : ByteArray) (x4_1 : Int), v3 = .string x3_1 ∧ v4 = .int .i64 x4_1 ∧ Aside0 (spec_WorldText.l0 kq x3_1 x4_1 a0_0 a0_1 a0_2 l0_3 l0_4 a0_5 a0_6 l0_7 a0_8 a0_9 a0_10 a0_11 l0_12 a0_13 a0_14 a0_15 = some r) ∧ Aside0 (kq ≤ k) ∧ Aside0 (w'.heap[gb488]? = some (.cells #[.int .i64 a0_0, .int .i64 a0_1, .int .i64 a0_2, (.slice A0_3 l0_3.length c0_3), (.slice A0_4 l0_4.length c0_4), .int .i64 a0_5, .int .i64 a0_6, (.slice A0_7 l0_7.length c0_7), .int .i64 a0_8, .int .i64 a0_9, .int .i64 a0_10, .int .i64 a0_11, (.slice A0_12 l0_12.length c0_12), .int .i64 a0_13, .int .i64 a0_14, .int .i64 a0_15] 36 (0, 0))) ∧ Aside0 (Below w.heap.size w w'))
       case atStart => exact ⟨(((((t490 ++ (⟨#[32, 119, 97, 114, 109, 32]⟩ : ByteArray)) ++ t491) ++ (⟨#[32, 101, 97, 99, 104, 32]⟩ : ByteArray)) ++ t492) ++ (⟨#[58]⟩ : ByteArray)), (0), Pst.e2, Pst.e2, H', ⟨Nat.le_refl _⟩, ⟨by exact Pst.qb BK488.out⟩, ⟨Pst.bes⟩⟩
       clear H'
       try clear c1
       try clear c2
       try clear p2
       try clear c3
       try clear c5
       try clear c5b0
       try clear c5b1
       try clear c5b2
       try clear c7
       try clear c7b0
       try clear c7b1
       try clear c7b2
       try clear c8
       try clear c8b0
       try clear c8b1
       try clear c8b2
       try clear c10
       try clear c10b0
       try clear c10b1
       try clear c10b2
       try clear c11
       try clear c11b0
       try clear c11b1
       try clear c11b2
       obtain ⟨x3_1, x4_1, rfl, rfl, HA, HK1, BK488, HB⟩ := hrel
       cases gk with
       | zero => exact absurd HA.out (by simp [spec_WorldText.l0])
       | succ k1 =>
        have H := HA.out
        clear HA
        simp only [spec_WorldText.l0] at H
        by_cases c19 : x4_1 < (l0_12.length : Int)
        ·rw [if_pos c19] at H
         have c19b0 : decide (x4_1 < (l0_12.length : Int)) = true := decide_eq_true c19
         clear c19
         by_cases c20 : x3_1.size + 1 ≤ 9223372036854775807
         ·rw [if_pos c20] at H
          have c20b0 := eq_true c20
          have c20b1 : decide (x3_1.size + 1 ≤ 9223372036854775807) = true := decide_eq_true c20
          try have c20b2 : (9223372036854775807 < x3_1.size + 1) = False := eq_false (Nat.not_lt.2 c20)
          by_cases c21 : 0 ≤ x4_1
          ·rw [if_pos c21] at H
           have c21b0 : decide (0 ≤ x4_1) = true := decide_eq_true c21
           clear c21
           obtain ⟨t494, A220, H⟩ := Pst.bd H
           have A22 := Pst.A A220
           clear A220
           by_cases c23 : (x3_1 ++ (⟨#[32]⟩ : ByteArray)).size + t494.size ≤ 9223372036854775807
           ·rw [if_pos c23] at H
            have c23b0 := eq_true c23
            have c23b1 : decide ((x3_1 ++ (⟨#[32]⟩ : ByteArray)).size + t494.size ≤ 9223372036854775807) = true := decide_eq_true c23
            try have c23b2 : (9223372036854775807 < (x3_1 ++ (⟨#[32]⟩ : ByteArray)).size + t494.size) = False := eq_false (Nat.not_lt.2 c23)
            try have c23b3 : (9223372036854775807 < x3_1.size + 1 + t494.size) = False := by rw [show x3_1.size + 1 + t494.size = (x3_1 ++ (⟨#[32]⟩ : ByteArray)).size + t494.size from (by first | (simp only [ByteArray.size_append]; done) | (simp only [ByteArray.size_append]; rfl) | rfl)]; exact c23b2
            have H' := Pst.A H
            clear H
            obtain ⟨hcz24_0, hcz24_1, hcz24_2, hcz24_3, hcz24_4, hcz24_5, hcz24_6, hcz24_7, hcz24_8, hcz24_9, hcz24_10, hcz24_11, hcz24_12, hcz24_13, hcz24_14, hcz24_15⟩ := Pst.c16 BK488.out
            obtain ⟨hfz24_0, hfz24_1, hfz24_2, hfz24_3, hfz24_4, hfz24_5, hfz24_6, hfz24_7, hfz24_8, hfz24_9, hfz24_10, hfz24_11, hfz24_12, hfz24_13, hfz24_14, hfz24_15⟩ := Pst.f16 BK488.out
            have p493 : 0 ≤ (x4_1 : Int) := Pst.da
            have q493 : x4_1 < (l0_12.length : Int) := Pst.da
            obtain ⟨ad493, e493, hx493_0⟩ := Kd.at_int HR0_12.out x4_1 p493 q493
            cases e493
            replace hx493_0 := (HB.out.cell (World.block_lt_of_cell? w _ hx493_0)).trans hx493_0
            replace p493 := eq_true p493
            replace q493 := eq_true q493
            go_wp2_with (first | ((with_reducible refine gate_callee (f := 21) rfl ?_); refine goesL_ (some 36) rfl rfl Tryz.func21 (by kernel_rfl) rfl #[.int .i64 (rd l0_12 x4_1)] rfl Pst.ga ?_; (with_reducible refine (spec_MilliText.calls k1 (rd l0_12 x4_1) t494 _ A22.out).mono ?_); rintro e w25 ⟨rfl, hb⟩; refine ⟨_, rfl, ?_⟩; replace BK488 := Pst.A (Pst.kb BK488.out hb); replace HB := Pst.A (below_step Pst.bes hb); (try clear hb); (try clear hb2); (try clear hk); (try clear hi)))
            go_roundg k1
            case measure => have := HK1.out; omega
            case rel => exact ⟨((x3_1 ++ (⟨#[32]⟩ : ByteArray)) ++ t494), (wrap64 (x4_1 + 1)), Pst.e2, Pst.e2, H', ⟨by have := HK1.out; omega⟩, ⟨by exact Pst.qb BK488.out⟩, ⟨Pst.bes⟩⟩
           rw [if_neg c23] at H
           exact absurd H (by simp)
          rw [if_neg c21] at H
          exact absurd H (by simp)
         rw [if_neg c20] at H
         exact absurd H (by simp)
        rw [if_neg c19] at H
        have c19b0 : decide (x4_1 < (l0_12.length : Int)) = false := decide_eq_false c19
        clear c19
        obtain rfl := Option.some.inj H
        obtain ⟨hcz26_0, hcz26_1, hcz26_2, hcz26_3, hcz26_4, hcz26_5, hcz26_6, hcz26_7, hcz26_8, hcz26_9, hcz26_10, hcz26_11, hcz26_12, hcz26_13, hcz26_14, hcz26_15⟩ := Pst.c16 BK488.out
        obtain ⟨hfz26_0, hfz26_1, hfz26_2, hfz26_3, hfz26_4, hfz26_5, hfz26_6, hfz26_7, hfz26_8, hfz26_9, hfz26_10, hfz26_11, hfz26_12, hfz26_13, hfz26_14, hfz26_15⟩ := Pst.f16 BK488.out
        go_wp2
        go_ret
        exact ⟨Pst.e1, Pst.bes⟩
      rw [if_neg c11] at H
      exact absurd H (by simp)
     rw [if_neg c10] at H
     exact absurd H (by simp)
    rw [if_neg c8] at H
    exact absurd H (by simp)
   rw [if_neg c7] at H
   exact absurd H (by simp)
  rw [if_neg c5] at H
  exact absurd H (by simp)
 replace c3 := Bool.eq_false_iff.mpr c3
 subst c3
 rw [if_neg Pst.ft] at H
 obtain rfl := Option.some.inj H
 go_enter Tryz.func7, Tryz.ntmps7
 go_wp2_with (first | ((with_reducible refine gate_dst (N := 1) rfl ?_); refine Pst.bx 1 #[.int .i64 a0_0, .int .i64 a0_1, .int .i64 a0_2, .slice A0_3 l0_3.length c0_3, .slice A0_4 l0_4.length c0_4, .int .i64 a0_5, .int .i64 a0_6, .slice A0_7 l0_7.length c0_7, .int .i64 a0_8, .int .i64 a0_9, .int .i64 a0_10, .int .i64 a0_11, .slice A0_12 l0_12.length c0_12, .int .i64 a0_13, .int .i64 a0_14, .int .i64 a0_15] 36 ?_; intro gb488 hg w27 hbox hb; have BK488 := Pst.A hbox; have GW488 := Pst.A (Pst.gs hg : w.heap.size ≤ gb488); have GE488 := Pst.A (Pst.gs hg : w.heap.size ≤ gb488); replace HB := Pst.A (below_step Pst.bel hb); clear hb hbox hg; obtain ⟨hcz28_0, hcz28_1, hcz28_2, hcz28_3, hcz28_4, hcz28_5, hcz28_6, hcz28_7, hcz28_8, hcz28_9, hcz28_10, hcz28_11, hcz28_12, hcz28_13, hcz28_14, hcz28_15⟩ := Pst.c16 BK488.out; obtain ⟨hfz28_0, hfz28_1, hfz28_2, hfz28_3, hfz28_4, hfz28_5, hfz28_6, hfz28_7, hfz28_8, hfz28_9, hfz28_10, hfz28_11, hfz28_12, hfz28_13, hfz28_14, hfz28_15⟩ := Pst.f16 BK488.out) | ((with_reducible refine gate_callee (f := 8) rfl ?_); refine goesL_ (some 6) rfl rfl Tryz.func8 (by kernel_rfl) rfl #[.agg #[.int .i64 a0_0, .int .i64 a0_1, .int .i64 a0_2, .slice A0_3 l0_3.length c0_3, .slice A0_4 l0_4.length c0_4, .int .i64 a0_5, .int .i64 a0_6, .slice A0_7 l0_7.length c0_7, .int .i64 a0_8, .int .i64 a0_9, .int .i64 a0_10, .int .i64 a0_11, .slice A0_12 l0_12.length c0_12, .int .i64 a0_13, .int .i64 a0_14, .int .i64 a0_15]] rfl Pst.ga ?_; (with_reducible refine (spec_WorldOk.calls k a0_0 a0_1 a0_2 _ _ l0_3 _ _ l0_4 a0_5 a0_6 _ _ l0_7 a0_8 a0_9 a0_10 a0_11 _ _ l0_12 a0_13 a0_14 a0_15 false _ ?side1 ?side2 ?side3 ?side4 ?side5 ?side6 ?side7 ?side8 A2.out).mono ?_); (case side1 => exact Pst.qc (Kd.C_below HR0_3.out HB.out)); (case side2 => exact HC0_3.out); (case side3 => exact Pst.qc (Kd.C_below HR0_4.out HB.out)); (case side4 => exact HC0_4.out); (case side5 => exact Pst.qc (Kd.C_below HR0_7.out HB.out)); (case side6 => exact HC0_7.out); (case side7 => exact Pst.qc (Kd.C_below HR0_12.out HB.out)); (case side8 => exact HC0_12.out); rintro e w29 ⟨rfl, hb⟩; refine ⟨_, rfl, ?_⟩; replace BK488 := Pst.A (Pst.kb BK488.out hb); replace HB := Pst.A (below_step Pst.bes hb); (try clear hb); (try clear hb2); (try clear hk); (try clear hi)))
 go_ret
 exact ⟨Pst.e1, Pst.bes⟩
theorem spec_WorldText.l0.st {x3 : ByteArray} {x4 : Int} {x489000 : Int} {x489001 : Int} {x489002 : Int} {x489003 : List (S48)} {x489004 : List (S101)} {x489005 : Int} {x489006 : Int} {x489007 : List (S101)} {x489008 : Int} {x489009 : Int} {x489010 : Int} {x489011 : Int} {x489012 : List Int} {x489013 : Int} {x489014 : Int} {x489015 : Int} {r : (ByteArray)} (H : Ev (fun k => if x4 < (x489012.length : Int) then (if x3.size + 1 ≤ 9223372036854775807 then (if 0 ≤ x4 then ((spec_MilliText.f k (rd x489012 x4)).bind fun t494 => (if (x3 ++ (⟨#[32]⟩ : ByteArray)).size + t494.size ≤ 9223372036854775807 then (spec_WorldText.l0 k ((x3 ++ (⟨#[32]⟩ : ByteArray)) ++ t494) (wrap64 (x4 + 1)) x489000 x489001 x489002 x489003 x489004 x489005 x489006 x489007 x489008 x489009 x489010 x489011 x489012 x489013 x489014 x489015) else (none))) else (none)) else (none)) else (some x3)) r) : Ev (fun k => spec_WorldText.l0 k x3 x4 x489000 x489001 x489002 x489003 x489004 x489005 x489006 x489007 x489008 x489009 x489010 x489011 x489012 x489013 x489014 x489015) r := Ev.step (fun k => spec_WorldText.l0.eq_2 x3 x4 x489000 x489001 x489002 x489003 x489004 x489005 x489006 x489007 x489008 x489009 x489010 x489011 x489012 x489013 x489014 x489015 k) H

/-! ### strings_Split: function 24 -/
def strings_Split.f (a0 a1 : ByteArray) : Option (List ByteArray) := if a1 = ⟨#[32]⟩ ∧ a0.size ≤ 4294967280 then some (Lib.splitB a1 0 (Lib.countB a0 a1) a0) else none
theorem strings_Split.calls (a0 a1 : ByteArray) (r : List ByteArray) (w : World) (h : strings_Split.f a0 a1 = some r) (ht_ : Tab w := by exact HT.out.on Pst.bel) :
    Calls Tryz.prog 24 #[.string a0, .string a1] w fun e w' => ∃ v0_ : Value, e = .returned v0_ ∧ Kd.R Kd.string 9 w' w.heap.size (fun _ => True) v0_ r ∧ Below w.heap.size w w' := by
 unfold strings_Split.f at h
 by_cases hb : a1 = ⟨#[32]⟩ ∧ a0.size ≤ 4294967280
 ·rw [if_pos hb] at h
  obtain rfl := Option.some.inj h
  obtain ⟨rfl, hs⟩ := hb
  obtain ⟨_, ⟨m, hm⟩, _⟩ := ht_
  refine (Tryz.strings_Split a0 ⟨#[32]⟩ m w (by omega) hm (by decide)).mono ?_
  rintro e w' ⟨rfl, rfl⟩
  have hlen := Lib.splitB_all ⟨#[32]⟩ (by decide) 0 _ a0 rfl
  refine ⟨_, rfl, ⟨fun _ _ => trivial, _, ?_, Kd.reps_scalar _⟩, below_alloc (Below.refl _ _) _⟩
  have hc := Lib.countB_le ⟨#[32]⟩ (by decide) _ a0 (Nat.le_refl _)
  have h2 := World.ownsRow_lit (base := w.heap.size) (e := 9) (size := 1) w ((Lib.splitB ⟨#[32]⟩ 0 (Lib.countB a0 ⟨#[32]⟩) a0).map Value.string).toArray (Lib.countB a0 ⟨#[32]⟩ + 1) (Nat.le_refl _) (by unfold maxLen; omega) (by simpa using hlen)
  rw [hlen]
  exact h2
 ·rw [if_neg hb] at h
  cases h

/-! ### slices_Clone_Goal: function 45 -/
def slices_Clone_Goal.f (l0 : List S48) : Option (List S48) := if l0.length ≤ 4398046511104 then some l0 else none
theorem slices_Clone_Goal.calls (A0 : Option Addr) (c0 : Nat) (l0 : List (S48)) (r : List S48) (w : World) (hr0 : Kd.C k48 w A0 l0.length l0) (_hc0 : l0.length ≤ c0) (h : slices_Clone_Goal.f l0 = some r) :
    Calls Tryz.prog 45 #[.slice A0 l0.length c0] w fun e w' => ∃ v0_ : Value, e = .returned v0_ ∧ Kd.R k48 48 w' w.heap.size (fun _ => True) v0_ r ∧ Below w.heap.size w w' := by
 unfold slices_Clone_Goal.f at h
 by_cases hb : l0.length ≤ 4398046511104
 ·rw [if_pos hb] at h
  obtain rfl := Option.some.inj h
  have q30 : ∀ (w : World) (a : Option Addr) (n c n' c' : Nat), (binOp .eql 26 (.slice a n c) (.slice none n' c')).run Tryz.prog w = .ok (.bool a.isNone) w := fun w a n c n' c' => Lib.run_eql_slice_nil w _ _ a n c n' c' Tryz.underlying26
  have HR := Pst.A hr0
  have HL := Pst.A hb
  clear h hb hr0
  cases A0 with
  | none =>
   have h0 : l0 = [] := by
    rcases Nat.eq_zero_or_pos l0.length with h0 | h0
    ·exact List.eq_nil_of_length_eq_zero h0
    ·obtain ⟨_, h, _⟩ := HR.out.2.2 h0
     cases h
   subst h0
   go_enter Tryz.func45, Tryz.ntmps45
   go_wp2
   go_ret
   exact ⟨_, rfl, Kd.R_nil _ _ _ _ _, Below.refl _ _⟩
  | some ad =>
   go_enter Tryz.func45, Tryz.ntmps45
   go_wp2_with (first
    | ((with_reducible refine gate_dst (N := 5) rfl ?_); refine Kd.R_lit k48 _ 48 ?hg (N := 5) ?hd (xs := ([] : List S48)) (inner := []) (ok := fun _ => True) (okp := fun _ => True) ?hr ?hp (fun _ hk => hk) trivial (Below.refl _ _) (Nat.le_refl _) (by simp) ?_; (case hd => rfl); (case hg => rfl); (case hr => exact Pst.gr); (case hp => exact (Reps.none _ _)); intro v5 w5 ho5 hb5 hg5 hnew5; have HO := Pst.A ho5; have HB := Pst.A hb5; have HN := Pst.A hnew5; clear ho5 hb5 hg5 hnew5)
    | ((with_reducible refine gate_dst (N := 7) rfl ?_); refine Kd.R_append_rows k48 (Rr := k48.K _) w.heap.size ?hg _ _ 26 48 (.agg #[(.string ⟨#[]⟩), (.int .i64 0), (.int .i64 0)]) 32 rfl Tryz.underlying26 ?hinfo ?hz (by decide) (by decide) _ [] l0 (some ad) l0.length c0 (fun _ => True) (fun k => False) rfl rfl HO.out (Kd.C_below HR.out HB.out) ?hkm (fun _ hk => hk.elim) (fun _ _ => trivial) HB.out HB.out.size ?hl ?_; (case hg => rfl); (case hinfo => exact info48); (case hz => rfl); (case hkm => exact fun _ _ hk => hk); (case hl => have := HL.out; simp; omega); intro v7 w7 ho7 hb7 _ _; have HO7 := Pst.A ho7; have HB7 := Pst.A hb7; clear ho7 hb7)
    | (fail))
   go_ret
   exact ⟨_, rfl, HO7.out, HB7.out⟩
 ·rw [if_neg hb] at h
  cases h

/-! ### slices_Clone_Policy: function 73 -/
def slices_Clone_Policy.f (l0 : List S101) : Option (List S101) := if l0.length ≤ 5864062014805 then some l0 else none
theorem slices_Clone_Policy.calls (A0 : Option Addr) (c0 : Nat) (l0 : List (S101)) (r : List S101) (w : World) (hr0 : Kd.C k101 w A0 l0.length l0) (_hc0 : l0.length ≤ c0) (h : slices_Clone_Policy.f l0 = some r) :
    Calls Tryz.prog 73 #[.slice A0 l0.length c0] w fun e w' => ∃ v0_ : Value, e = .returned v0_ ∧ Kd.R k101 101 w' w.heap.size (fun _ => True) v0_ r ∧ Below w.heap.size w w' := by
 unfold slices_Clone_Policy.f at h
 by_cases hb : l0.length ≤ 5864062014805
 ·rw [if_pos hb] at h
  obtain rfl := Option.some.inj h
  have q30 : ∀ (w : World) (a : Option Addr) (n c n' c' : Nat), (binOp .eql 27 (.slice a n c) (.slice none n' c')).run Tryz.prog w = .ok (.bool a.isNone) w := fun w a n c n' c' => Lib.run_eql_slice_nil w _ _ a n c n' c' Tryz.underlying27
  have HR := Pst.A hr0
  have HL := Pst.A hb
  clear h hb hr0
  cases A0 with
  | none =>
   have h0 : l0 = [] := by
    rcases Nat.eq_zero_or_pos l0.length with h0 | h0
    ·exact List.eq_nil_of_length_eq_zero h0
    ·obtain ⟨_, h, _⟩ := HR.out.2.2 h0
     cases h
   subst h0
   go_enter Tryz.func73, Tryz.ntmps73
   go_wp2
   go_ret
   exact ⟨_, rfl, Kd.R_nil _ _ _ _ _, Below.refl _ _⟩
  | some ad =>
   go_enter Tryz.func73, Tryz.ntmps73
   go_wp2_with (first
    | ((with_reducible refine gate_dst (N := 5) rfl ?_); refine Kd.R_lit k101 _ 101 ?hg (N := 5) ?hd (xs := ([] : List S101)) (inner := []) (ok := fun _ => True) (okp := fun _ => True) ?hr ?hp (fun _ hk => hk) trivial (Below.refl _ _) (Nat.le_refl _) (by simp) ?_; (case hd => rfl); (case hg => rfl); (case hr => exact Pst.gr); (case hp => exact (Reps.none _ _)); intro v5 w5 ho5 hb5 hg5 hnew5; have HO := Pst.A ho5; have HB := Pst.A hb5; have HN := Pst.A hnew5; clear ho5 hb5 hg5 hnew5)
    | ((with_reducible refine gate_dst (N := 7) rfl ?_); refine Kd.R_append_rows k101 (Rr := k101.K _) w.heap.size ?hg _ _ 27 101 (.agg #[(.int .i64 0), (.int .i64 0), (.int .i64 0)]) 24 rfl Tryz.underlying27 ?hinfo ?hz (by decide) (by decide) _ [] l0 (some ad) l0.length c0 (fun _ => True) (fun k => False) rfl rfl HO.out (Kd.C_below HR.out HB.out) ?hkm (fun _ hk => hk.elim) (fun _ _ => trivial) HB.out HB.out.size ?hl ?_; (case hg => rfl); (case hinfo => exact info101); (case hz => rfl); (case hkm => exact fun _ _ hk => hk); (case hl => have := HL.out; simp; omega); intro v7 w7 ho7 hb7 _ _; have HO7 := Pst.A ho7; have HB7 := Pst.A hb7; clear ho7 hb7)
    | (fail))
   go_ret
   exact ⟨_, rfl, HO7.out, HB7.out⟩
 ·rw [if_neg hb] at h
  cases h

/-! ### impl_ownSide: function 46 -/
def impl_ownSide.f (l0_0 : List (S101)) (a0_1 : Int) (a0_2 : Int) : Option ((List (S101)) × Int × Int) := (slices_Clone_Policy.f l0_0).bind fun t497 => (some (t497, a0_1, a0_2))
theorem impl_ownSide.calls (A0_0 : Option Addr) (c0_0 : Nat) (l0_0 : List (S101)) (a0_1 : Int) (a0_2 : Int) (r1 : List (S101)) (r2 : Int) (r3 : Int) (w : World) (hr0_0 : Kd.C k101 w A0_0 l0_0.length l0_0) (hc0_0 : l0_0.length ≤ c0_0) (h : impl_ownSide.f l0_0 a0_1 a0_2 = some (r1, r2, r3)) :
    Calls Tryz.prog 46 #[.agg #[.slice A0_0 l0_0.length c0_0, .int .i64 a0_1, .int .i64 a0_2]] w fun e w' => ∃ v0_ : Value, e = .returned (.agg #[v0_, .int .i64 r2, .int .i64 r3]) ∧ Kd.R k101 101 w' w.heap.size (fun _ => True) v0_ r1 ∧ Below w.heap.size w w' := by
 have hu29 := Tryz.underlying29
 have HR0_0 := Pst.A hr0_0
 have HC0_0 := Pst.A hc0_0
 clear hr0_0 hc0_0
 have HB := Pst.A (Below.refl w.heap.size w)
 have H : ((slices_Clone_Policy.f l0_0).bind fun t497 => (some (t497, a0_1, a0_2))) = some (r1, r2, r3) := h
 clear h
 obtain ⟨t497, A20, H⟩ := Pst.bd H
 have A2 := Pst.A A20
 clear A20
 simp only [Option.some.injEq, Prod.mk.injEq] at H
 obtain ⟨rfl, rfl, rfl⟩ := H
 go_enter Tryz.func46, Tryz.ntmps46
 go_wp2_with (first | ((with_reducible refine gate_dst (N := 1) rfl ?_); refine Pst.bx 1 #[.slice A0_0 l0_0.length c0_0, .int .i64 a0_1, .int .i64 a0_2] 29 ?_; intro gb495 hg w3 hbox hb; have BK495 := Pst.A hbox; have GW495 := Pst.A (Pst.gs hg : w.heap.size ≤ gb495); have GE495 := Pst.A (Pst.gs hg : w.heap.size ≤ gb495); replace HB := Pst.A (below_step Pst.bel hb); clear hb hbox hg) | ((with_reducible refine gate_dst (N := 2) rfl ?_); refine Pst.bx 2 #[.slice none 0 0, .int .i64 0, .int .i64 0] 29 ?_; intro gb496 hg w4 hbox hb; have BK496 := Pst.A hbox; have GW496 := Pst.A (Pst.gs hg : w.heap.size ≤ gb496); have GE496 := Pst.A (Pst.gs hg : w.heap.size ≤ gb496); have NB495_496 := Pst.A (Pst.nl BK495.out hg); have NB496_495 := Pst.A (Pst.nr BK495.out hg); replace BK495 := Pst.A (Pst.kb BK495.out hb); replace HB := Pst.A (below_step Pst.bes hb); clear hb hbox hg; have hnb5 := NB495_496.out; have hnc5 := NB496_495.out; obtain ⟨_,_,_⟩ := Pst.c3 BK495.out; obtain ⟨_,_,_⟩ := Pst.f3 BK495.out) | ((with_reducible refine gate_callee (f := 73) rfl ?_); refine goesL_ (some 5) rfl rfl Tryz.func73 (by kernel_rfl) rfl #[.slice A0_0 l0_0.length c0_0] rfl Pst.ga ?_; (with_reducible refine (slices_Clone_Policy.calls _ _ l0_0 t497 _ ?side1 ?side2 A2.out).mono ?_); (case side1 => exact Pst.qc (Kd.C_below HR0_0.out HB.out)); (case side2 => exact HC0_0.out); rintro e w7 ⟨v498, rfl, ho0, hb⟩; refine ⟨_, rfl, ?_⟩; have HO499 := Pst.A (Kd.R_lower ho0 (below_size Pst.bes)); replace BK495 := Pst.A (Pst.kb BK495.out hb); replace BK496 := Pst.A (Pst.kb BK496.out hb); replace HB := Pst.A (below_step Pst.bes hb); (try clear hb); (try clear hb2); (try clear hk); (try clear hi); (try clear ho0); obtain ⟨Ao8, co8, eo8⟩ := Kd.R_slice HO499.out; subst eo8; obtain ⟨_,_,_⟩ := Pst.c3 BK495.out; obtain ⟨_,_,_⟩ := Pst.f3 BK495.out; obtain ⟨_,_,_⟩ := Pst.c3 BK496.out; obtain ⟨_,_,_⟩ := Pst.f3 BK496.out))
 refine bodyPost_ret (results_cell_row rfl _ _ gb496 29 #[.slice Ao8 t497.length co8, .int .i64 a0_1, .int .i64 a0_2] (0, 0) _ rfl (by (with_reducible repeat (first | refine blk_drewN ?_ _ | refine blk_drew ?_ | refine blk_alloc ?_ _)); refine blk_put (cs := #[.slice Ao8 t497.length co8, .int .i64 a0_1, .int .i64 0]) ?_ 2 _ rfl; (with_reducible repeat (first | refine blk_drewN ?_ _ | refine blk_drew ?_ | refine blk_alloc ?_ _)); refine blk_put (cs := #[.slice Ao8 t497.length co8, .int .i64 0, .int .i64 0]) ?_ 1 _ rfl; (with_reducible repeat (first | refine blk_drewN ?_ _ | refine blk_drew ?_ | refine blk_alloc ?_ _)); refine blk_put (cs := #[.slice none 0 0, .int .i64 0, .int .i64 0]) ?_ 0 _ rfl; (with_reducible repeat (first | refine blk_drewN ?_ _ | refine blk_drew ?_ | refine blk_alloc ?_ _)); refine blk_far ?_ NB496_495.out _; exact Pst.qb BK496.out) Tryz.underlying29 rfl (by kernel_rfl)) rfl ?_
 exact ⟨_, Pst.e1, by (with_reducible repeat (first | apply Kd.R_alloc | apply Kd.R_drewN | apply Kd.R_drew)); exact Kd.R_mono (Kd.R_far (p := ⟨gb496, 2, none⟩) (Kd.R_far (p := ⟨gb496, 1, none⟩) (Kd.R_far (p := ⟨gb496, 0, none⟩) (Kd.R_far (p := ⟨gb495, 0, none⟩) (Kd.R_types (Kd.R_types HO499.out BK495.out (by decide)) BK496.out (by decide)) (fun _ hk => hk.1.2) (.slice Ao8 t497.length co8)) (fun _ hk => hk.2) (.slice Ao8 t497.length co8)) (fun _ hk => hk.2) (.int .i64 a0_1)) (fun _ hk => hk.2) (.int .i64 a0_2)) (fun _ hk => trivial), Pst.bes⟩

/-! ### impl_ownSetup: function 26 -/
def impl_ownSetup.f (a0_0 : Int) (a0_1 : Int) (a0_2 : Int) (l0_3 : List (S48)) (l0_4 : List (S101)) (a0_5 : Int) (a0_6 : Int) (l0_7 : List (S101)) (a0_8 : Int) (a0_9 : Int) (a0_10 : Int) (a0_11 : Int) : Option (Int × Int × Int × (List (S48)) × (List (S101)) × Int × Int × (List (S101)) × Int × Int × Int × Int) := (slices_Clone_Goal.f l0_3).bind fun t502 => ((impl_ownSide.f l0_4 a0_5 a0_6).bind fun bt505 => ((impl_ownSide.f l0_7 a0_8 a0_9).bind fun bt510 => (some (a0_0, a0_1, a0_2, t502, bt505.1, bt505.2.1, bt505.2.2, bt510.1, bt510.2.1, bt510.2.2, a0_10, a0_11))))
theorem impl_ownSetup.calls (a0_0 : Int) (a0_1 : Int) (a0_2 : Int) (A0_3 : Option Addr) (c0_3 : Nat) (l0_3 : List (S48)) (A0_4 : Option Addr) (c0_4 : Nat) (l0_4 : List (S101)) (a0_5 : Int) (a0_6 : Int) (A0_7 : Option Addr) (c0_7 : Nat) (l0_7 : List (S101)) (a0_8 : Int) (a0_9 : Int) (a0_10 : Int) (a0_11 : Int) (r1 : Int) (r2 : Int) (r3 : Int) (r4 : List (S48)) (r5 : List (S101)) (r6 : Int) (r7 : Int) (r8 : List (S101)) (r9 : Int) (r10 : Int) (r11 : Int) (r12 : Int) (w : World) (hr0_3 : Kd.C k48 w A0_3 l0_3.length l0_3) (hc0_3 : l0_3.length ≤ c0_3) (hr0_4 : Kd.C k101 w A0_4 l0_4.length l0_4) (hc0_4 : l0_4.length ≤ c0_4) (hr0_7 : Kd.C k101 w A0_7 l0_7.length l0_7) (hc0_7 : l0_7.length ≤ c0_7) (h : impl_ownSetup.f a0_0 a0_1 a0_2 l0_3 l0_4 a0_5 a0_6 l0_7 a0_8 a0_9 a0_10 a0_11 = some (r1, r2, r3, r4, r5, r6, r7, r8, r9, r10, r11, r12)) :
 Calls Tryz.prog 26 #[.agg #[.int .i64 a0_0, .int .i64 a0_1, .int .i64 a0_2, .slice A0_3 l0_3.length c0_3, .slice A0_4 l0_4.length c0_4, .int .i64 a0_5, .int .i64 a0_6, .slice A0_7 l0_7.length c0_7, .int .i64 a0_8, .int .i64 a0_9, .int .i64 a0_10, .int .i64 a0_11]] w fun e w' => ∃ v3_ v4_ v7_ : Value, e = .returned (.agg #[.int .i64 r1, .int .i64 r2, .int .i64 r3, v3_, v4_, .int .i64 r6, .int .i64 r7, v7_, .int .i64 r9, .int .i64 r10, .int .i64 r11, .int .i64 r12]) ∧ Kd.R k48 48 w' w.heap.size (fun _ => True) v3_ r4 ∧ Kd.R k101 101 w' w.heap.size (fun k_ => some k_ ≠ (v7_ : Value).ownBlock) v4_ r5 ∧ Kd.R k101 101 w' w.heap.size (fun k_ => some k_ ≠ (v4_ : Value).ownBlock) v7_ r8 ∧ Below w.heap.size w w' := by
 have hu33 := Tryz.underlying33
 have hu29 := Tryz.underlying29
 have HR0_3 := Pst.A hr0_3
 have HC0_3 := Pst.A hc0_3
 clear hr0_3 hc0_3
 have HR0_4 := Pst.A hr0_4
 have HC0_4 := Pst.A hc0_4
 clear hr0_4 hc0_4
 have HR0_7 := Pst.A hr0_7
 have HC0_7 := Pst.A hc0_7
 clear hr0_7 hc0_7
 have HB := Pst.A (Below.refl w.heap.size w)
 have H : ((slices_Clone_Goal.f l0_3).bind fun t502 => ((impl_ownSide.f l0_4 a0_5 a0_6).bind fun bt505 => ((impl_ownSide.f l0_7 a0_8 a0_9).bind fun bt510 => (some (a0_0, a0_1, a0_2, t502, bt505.1, bt505.2.1, bt505.2.2, bt510.1, bt510.2.1, bt510.2.2, a0_10, a0_11))))) = some (r1, r2, r3, r4, r5, r6, r7, r8, r9, r10, r11, r12) := h
 clear h
 obtain ⟨t502, A20, H⟩ := Pst.bd H
 have A2 := Pst.A A20
 clear A20
 obtain ⟨⟨t505, t508, t509⟩, A30, H⟩ := Pst.bd H
 replace H : ((impl_ownSide.f l0_7 a0_8 a0_9).bind fun bt510 => (some (a0_0, a0_1, a0_2, t502, t505, t508, t509, bt510.1, bt510.2.1, bt510.2.2, a0_10, a0_11))) = some (r1, r2, r3, r4, r5, r6, r7, r8, r9, r10, r11, r12) := H
 have A3 := Pst.A A30
 clear A30
 obtain ⟨⟨t510, t513, t514⟩, A40, H⟩ := Pst.bd H
 replace H : (some (a0_0, a0_1, a0_2, t502, t505, t508, t509, t510, t513, t514, a0_10, a0_11)) = some (r1, r2, r3, r4, r5, r6, r7, r8, r9, r10, r11, r12) := H
 have A4 := Pst.A A40
 clear A40
 simp only [Option.some.injEq, Prod.mk.injEq] at H
 obtain ⟨rfl, rfl, rfl, rfl, rfl, rfl, rfl, rfl, rfl, rfl, rfl, rfl⟩ := H
 go_enter Tryz.func26, Tryz.ntmps26
 go_wp2_with (first | ((with_reducible refine gate_dst (N := 1) rfl ?_); refine Pst.bx 1 #[.int .i64 a0_0, .int .i64 a0_1, .int .i64 a0_2, .slice A0_3 l0_3.length c0_3, .slice A0_4 l0_4.length c0_4, .int .i64 a0_5, .int .i64 a0_6, .slice A0_7 l0_7.length c0_7, .int .i64 a0_8, .int .i64 a0_9, .int .i64 a0_10, .int .i64 a0_11] 33 ?_; intro gb500 hg w5 hbox hb; have BK500 := Pst.A hbox; have GW500 := Pst.A (Pst.gs hg : w.heap.size ≤ gb500); have GE500 := Pst.A (Pst.gs hg : w.heap.size ≤ gb500); replace HB := Pst.A (below_step Pst.bel hb); clear hb hbox hg) | ((with_reducible refine gate_dst (N := 2) rfl ?_); refine Pst.bx 2 #[.int .i64 0, .int .i64 0, .int .i64 0, .slice none 0 0, .slice none 0 0, .int .i64 0, .int .i64 0, .slice none 0 0, .int .i64 0, .int .i64 0, .int .i64 0, .int .i64 0] 33 ?_; intro gb501 hg w6 hbox hb; have BK501 := Pst.A hbox; have GW501 := Pst.A (Pst.gs hg : w.heap.size ≤ gb501); have GE501 := Pst.A (Pst.gs hg : w.heap.size ≤ gb501); have NB500_501 := Pst.A (Pst.nl BK500.out hg); have NB501_500 := Pst.A (Pst.nr BK500.out hg); replace BK500 := Pst.A (Pst.kb BK500.out hb); replace HB := Pst.A (below_step Pst.bes hb); clear hb hbox hg; have hnb7 := NB500_501.out; have hnc7 := NB501_500.out; obtain ⟨_,_,_,_,_,_,_,_,_,_,_,_⟩ := Pst.c12 BK500.out; obtain ⟨_,_,_,_,_,_,_,_,_,_,_,_⟩ := Pst.f12 BK500.out) | ((with_reducible refine gate_callee (f := 45) rfl ?_); refine goesL_ (some 5) rfl rfl Tryz.func45 (by kernel_rfl) rfl #[.slice A0_3 l0_3.length c0_3] rfl Pst.ga ?_; (with_reducible refine (slices_Clone_Goal.calls _ _ l0_3 t502 _ ?side1 ?side2 A2.out).mono ?_); (case side1 => exact Pst.qc (Kd.C_below HR0_3.out HB.out)); (case side2 => exact HC0_3.out); rintro e w9 ⟨v503, rfl, ho0, hb⟩; refine ⟨_, rfl, ?_⟩; have HO504 := Pst.A (Kd.R_lower ho0 (below_size Pst.bes)); replace BK500 := Pst.A (Pst.kb BK500.out hb); replace BK501 := Pst.A (Pst.kb BK501.out hb); replace HB := Pst.A (below_step Pst.bes hb); (try clear hb); (try clear hb2); (try clear hk); (try clear hi); (try clear ho0); obtain ⟨Ao10, co10, eo10⟩ := Kd.R_slice HO504.out; subst eo10; obtain ⟨_,_,_,_,_,_,_,_,_,_,_,_⟩ := Pst.c12 BK500.out; obtain ⟨_,_,_,_,_,_,_,_,_,_,_,_⟩ := Pst.f12 BK500.out) | ((with_reducible refine gate_callee (f := 46) rfl ?_); refine goesL_ (some 10) rfl rfl Tryz.func46 (by kernel_rfl) rfl #[.agg #[.slice A0_4 l0_4.length c0_4, .int .i64 a0_5, .int .i64 a0_6]] rfl Pst.ga ?_; (with_reducible refine (impl_ownSide.calls _ _ l0_4 a0_5 a0_6 t505 t508 t509 _ ?side1 ?side2 A3.out).mono ?_); (case side1 => exact Kd.C_below HR0_4.out Pst.bes); (case side2 => exact HC0_4.out); rintro e w12 ⟨v506, rfl, ho0, hb⟩; refine ⟨_, rfl, ?_⟩; have HO507 := Pst.A (Kd.R_lower ho0 (below_size Pst.bes)); replace HO504 := Pst.A (Kd.R_below (by (with_reducible repeat (first | apply Kd.R_alloc | apply Kd.R_drewN | apply Kd.R_drew)); exact (Kd.R_mono (Kd.R_far (p := ⟨gb500, 3, none⟩) (Kd.R_types HO504.out BK500.out (by decide)) (fun _ hk => hk.2) (.slice Ao10 t502.length co10)) (fun _ h_ => h_.1))) hb); replace BK500 := Pst.A (blk_below (g := gb500) (o := .cells #[.int .i64 a0_0, .int .i64 a0_1, .int .i64 a0_2, .slice Ao10 t502.length co10, .slice A0_4 l0_4.length c0_4, .int .i64 a0_5, .int .i64 a0_6, .slice A0_7 l0_7.length c0_7, .int .i64 a0_8, .int .i64 a0_9, .int .i64 a0_10, .int .i64 a0_11] 33 (0, 0)) (by (with_reducible repeat (first | refine blk_drewN ?_ _ | refine blk_drew ?_ | refine blk_alloc ?_ _)); refine blk_put (cs := #[.int .i64 a0_0, .int .i64 a0_1, .int .i64 a0_2, .slice A0_3 l0_3.length c0_3, .slice A0_4 l0_4.length c0_4, .int .i64 a0_5, .int .i64 a0_6, .slice A0_7 l0_7.length c0_7, .int .i64 a0_8, .int .i64 a0_9, .int .i64 a0_10, .int .i64 a0_11]) ?_ 3 _ rfl; exact Pst.qb BK500.out) hb); replace BK501 := Pst.A (Pst.kf BK501.out hb); replace HB := Pst.A (below_step Pst.bes hb); (try clear hb); (try clear hb2); (try clear hk); (try clear hi); (try clear ho0); obtain ⟨Ao13, co13, eo13⟩ := Kd.R_slice HO507.out; subst eo13; obtain ⟨_,_,_,_,_,_,_,_,_,_,_,_⟩ := Pst.c12 BK500.out; obtain ⟨_,_,_,_,_,_,_,_,_,_,_,_⟩ := Pst.f12 BK500.out) | ((with_reducible refine gate_callee (f := 46) rfl ?_); refine goesL_ (some 16) rfl rfl Tryz.func46 (by kernel_rfl) rfl #[.agg #[.slice A0_7 l0_7.length c0_7, .int .i64 a0_8, .int .i64 a0_9]] rfl Pst.ga ?_; (with_reducible refine (impl_ownSide.calls _ _ l0_7 a0_8 a0_9 t510 t513 t514 _ ?side1 ?side2 A4.out).mono ?_); (case side1 => exact Kd.C_below HR0_7.out Pst.bes); (case side2 => exact HC0_7.out); rintro e w15 ⟨v511, rfl, ho0, hb⟩; refine ⟨_, rfl, ?_⟩; have HO512 := Pst.A (Kd.R_lower (Kd.R_new' ho0 (Kd.R_lt (by (with_reducible repeat (first | apply Kd.R_alloc | apply Kd.R_drewN | apply Kd.R_drew)); exact (Kd.R_mono (Kd.R_far (p := ⟨gb500, 6, none⟩) (Kd.R_far (p := ⟨gb500, 5, none⟩) (Kd.R_far (p := ⟨gb500, 4, none⟩) (Kd.R_types HO507.out BK500.out (by decide)) (fun _ hk => hk.2) (.slice Ao13 t505.length co13)) (fun _ hk => hk.2) (.int .i64 t508)) (fun _ hk => hk.2) (.int .i64 t509)) (fun _ h_ => h_.1))))) (below_size Pst.bes)); replace HO504 := Pst.A (Kd.R_below (by (with_reducible repeat (first | apply Kd.R_alloc | apply Kd.R_drewN | apply Kd.R_drew)); exact (Kd.R_mono (Kd.R_far (p := ⟨gb500, 6, none⟩) (Kd.R_far (p := ⟨gb500, 5, none⟩) (Kd.R_far (p := ⟨gb500, 4, none⟩) (Kd.R_types HO504.out BK500.out (by decide)) (fun _ hk => hk.2) (.slice Ao13 t505.length co13)) (fun _ hk => hk.2) (.int .i64 t508)) (fun _ hk => hk.2) (.int .i64 t509)) (fun _ h_ => h_.1))) hb); replace HO507 := Pst.A (Kd.R_elder' (by (with_reducible repeat (first | apply Kd.R_alloc | apply Kd.R_drewN | apply Kd.R_drew)); exact (Kd.R_mono (Kd.R_far (p := ⟨gb500, 6, none⟩) (Kd.R_far (p := ⟨gb500, 5, none⟩) (Kd.R_far (p := ⟨gb500, 4, none⟩) (Kd.R_types HO507.out BK500.out (by decide)) (fun _ hk => hk.2) (.slice Ao13 t505.length co13)) (fun _ hk => hk.2) (.int .i64 t508)) (fun _ hk => hk.2) (.int .i64 t509)) (fun _ h_ => h_.1))) (Kd.R_base ho0) hb); replace BK500 := Pst.A (blk_below (g := gb500) (o := .cells #[.int .i64 a0_0, .int .i64 a0_1, .int .i64 a0_2, .slice Ao10 t502.length co10, .slice Ao13 t505.length co13, .int .i64 t508, .int .i64 t509, .slice A0_7 l0_7.length c0_7, .int .i64 a0_8, .int .i64 a0_9, .int .i64 a0_10, .int .i64 a0_11] 33 (0, 0)) (by (with_reducible repeat (first | refine blk_drewN ?_ _ | refine blk_drew ?_ | refine blk_alloc ?_ _)); refine blk_put (cs := #[.int .i64 a0_0, .int .i64 a0_1, .int .i64 a0_2, .slice Ao10 t502.length co10, .slice Ao13 t505.length co13, .int .i64 t508, .int .i64 a0_6, .slice A0_7 l0_7.length c0_7, .int .i64 a0_8, .int .i64 a0_9, .int .i64 a0_10, .int .i64 a0_11]) ?_ 6 _ rfl; (with_reducible repeat (first | refine blk_drewN ?_ _ | refine blk_drew ?_ | refine blk_alloc ?_ _)); refine blk_put (cs := #[.int .i64 a0_0, .int .i64 a0_1, .int .i64 a0_2, .slice Ao10 t502.length co10, .slice Ao13 t505.length co13, .int .i64 a0_5, .int .i64 a0_6, .slice A0_7 l0_7.length c0_7, .int .i64 a0_8, .int .i64 a0_9, .int .i64 a0_10, .int .i64 a0_11]) ?_ 5 _ rfl; (with_reducible repeat (first | refine blk_drewN ?_ _ | refine blk_drew ?_ | refine blk_alloc ?_ _)); refine blk_put (cs := #[.int .i64 a0_0, .int .i64 a0_1, .int .i64 a0_2, .slice Ao10 t502.length co10, .slice A0_4 l0_4.length c0_4, .int .i64 a0_5, .int .i64 a0_6, .slice A0_7 l0_7.length c0_7, .int .i64 a0_8, .int .i64 a0_9, .int .i64 a0_10, .int .i64 a0_11]) ?_ 4 _ rfl; exact Pst.qb BK500.out) hb); replace BK501 := Pst.A (Pst.kf BK501.out hb); replace HB := Pst.A (below_step Pst.bes hb); (try clear hb); (try clear hb2); (try clear hk); (try clear hi); (try clear ho0); obtain ⟨Ao16, co16, eo16⟩ := Kd.R_slice HO512.out; subst eo16; obtain ⟨_,_,_,_,_,_,_,_,_,_,_,_⟩ := Pst.c12 BK500.out; obtain ⟨_,_,_,_,_,_,_,_,_,_,_,_⟩ := Pst.f12 BK500.out; obtain ⟨_,_,_,_,_,_,_,_,_,_,_,_⟩ := Pst.c12 BK501.out; obtain ⟨_,_,_,_,_,_,_,_,_,_,_,_⟩ := Pst.f12 BK501.out))
 refine bodyPost_ret (results_cell_row rfl _ _ gb501 33 #[.int .i64 a0_0, .int .i64 a0_1, .int .i64 a0_2, .slice Ao10 t502.length co10, .slice Ao13 t505.length co13, .int .i64 t508, .int .i64 t509, .slice Ao16 t510.length co16, .int .i64 t513, .int .i64 t514, .int .i64 a0_10, .int .i64 a0_11] (0, 0) _ rfl (by (with_reducible repeat (first | refine blk_drewN ?_ _ | refine blk_drew ?_ | refine blk_alloc ?_ _)); refine blk_put (cs := #[.int .i64 a0_0, .int .i64 a0_1, .int .i64 a0_2, .slice Ao10 t502.length co10, .slice Ao13 t505.length co13, .int .i64 t508, .int .i64 t509, .slice Ao16 t510.length co16, .int .i64 t513, .int .i64 t514, .int .i64 a0_10, .int .i64 0]) ?_ 11 _ rfl; (with_reducible repeat (first | refine blk_drewN ?_ _ | refine blk_drew ?_ | refine blk_alloc ?_ _)); refine blk_put (cs := #[.int .i64 a0_0, .int .i64 a0_1, .int .i64 a0_2, .slice Ao10 t502.length co10, .slice Ao13 t505.length co13, .int .i64 t508, .int .i64 t509, .slice Ao16 t510.length co16, .int .i64 t513, .int .i64 t514, .int .i64 0, .int .i64 0]) ?_ 10 _ rfl; (with_reducible repeat (first | refine blk_drewN ?_ _ | refine blk_drew ?_ | refine blk_alloc ?_ _)); refine blk_put (cs := #[.int .i64 a0_0, .int .i64 a0_1, .int .i64 a0_2, .slice Ao10 t502.length co10, .slice Ao13 t505.length co13, .int .i64 t508, .int .i64 t509, .slice Ao16 t510.length co16, .int .i64 t513, .int .i64 0, .int .i64 0, .int .i64 0]) ?_ 9 _ rfl; (with_reducible repeat (first | refine blk_drewN ?_ _ | refine blk_drew ?_ | refine blk_alloc ?_ _)); refine blk_put (cs := #[.int .i64 a0_0, .int .i64 a0_1, .int .i64 a0_2, .slice Ao10 t502.length co10, .slice Ao13 t505.length co13, .int .i64 t508, .int .i64 t509, .slice Ao16 t510.length co16, .int .i64 0, .int .i64 0, .int .i64 0, .int .i64 0]) ?_ 8 _ rfl; (with_reducible repeat (first | refine blk_drewN ?_ _ | refine blk_drew ?_ | refine blk_alloc ?_ _)); refine blk_put (cs := #[.int .i64 a0_0, .int .i64 a0_1, .int .i64 a0_2, .slice Ao10 t502.length co10, .slice Ao13 t505.length co13, .int .i64 t508, .int .i64 t509, .slice none 0 0, .int .i64 0, .int .i64 0, .int .i64 0, .int .i64 0]) ?_ 7 _ rfl; (with_reducible repeat (first | refine blk_drewN ?_ _ | refine blk_drew ?_ | refine blk_alloc ?_ _)); refine blk_put (cs := #[.int .i64 a0_0, .int .i64 a0_1, .int .i64 a0_2, .slice Ao10 t502.length co10, .slice Ao13 t505.length co13, .int .i64 t508, .int .i64 0, .slice none 0 0, .int .i64 0, .int .i64 0, .int .i64 0, .int .i64 0]) ?_ 6 _ rfl; (with_reducible repeat (first | refine blk_drewN ?_ _ | refine blk_drew ?_ | refine blk_alloc ?_ _)); refine blk_put (cs := #[.int .i64 a0_0, .int .i64 a0_1, .int .i64 a0_2, .slice Ao10 t502.length co10, .slice Ao13 t505.length co13, .int .i64 0, .int .i64 0, .slice none 0 0, .int .i64 0, .int .i64 0, .int .i64 0, .int .i64 0]) ?_ 5 _ rfl; (with_reducible repeat (first | refine blk_drewN ?_ _ | refine blk_drew ?_ | refine blk_alloc ?_ _)); refine blk_put (cs := #[.int .i64 a0_0, .int .i64 a0_1, .int .i64 a0_2, .slice Ao10 t502.length co10, .slice none 0 0, .int .i64 0, .int .i64 0, .slice none 0 0, .int .i64 0, .int .i64 0, .int .i64 0, .int .i64 0]) ?_ 4 _ rfl; (with_reducible repeat (first | refine blk_drewN ?_ _ | refine blk_drew ?_ | refine blk_alloc ?_ _)); refine blk_put (cs := #[.int .i64 a0_0, .int .i64 a0_1, .int .i64 a0_2, .slice none 0 0, .slice none 0 0, .int .i64 0, .int .i64 0, .slice none 0 0, .int .i64 0, .int .i64 0, .int .i64 0, .int .i64 0]) ?_ 3 _ rfl; (with_reducible repeat (first | refine blk_drewN ?_ _ | refine blk_drew ?_ | refine blk_alloc ?_ _)); refine blk_put (cs := #[.int .i64 a0_0, .int .i64 a0_1, .int .i64 0, .slice none 0 0, .slice none 0 0, .int .i64 0, .int .i64 0, .slice none 0 0, .int .i64 0, .int .i64 0, .int .i64 0, .int .i64 0]) ?_ 2 _ rfl; (with_reducible repeat (first | refine blk_drewN ?_ _ | refine blk_drew ?_ | refine blk_alloc ?_ _)); refine blk_put (cs := #[.int .i64 a0_0, .int .i64 0, .int .i64 0, .slice none 0 0, .slice none 0 0, .int .i64 0, .int .i64 0, .slice none 0 0, .int .i64 0, .int .i64 0, .int .i64 0, .int .i64 0]) ?_ 1 _ rfl; (with_reducible repeat (first | refine blk_drewN ?_ _ | refine blk_drew ?_ | refine blk_alloc ?_ _)); refine blk_put (cs := #[.int .i64 0, .int .i64 0, .int .i64 0, .slice none 0 0, .slice none 0 0, .int .i64 0, .int .i64 0, .slice none 0 0, .int .i64 0, .int .i64 0, .int .i64 0, .int .i64 0]) ?_ 0 _ rfl; (with_reducible repeat (first | refine blk_drewN ?_ _ | refine blk_drew ?_ | refine blk_alloc ?_ _)); refine blk_far ?_ NB501_500.out _; (with_reducible repeat (first | refine blk_drewN ?_ _ | refine blk_drew ?_ | refine blk_alloc ?_ _)); refine blk_far ?_ NB501_500.out _; (with_reducible repeat (first | refine blk_drewN ?_ _ | refine blk_drew ?_ | refine blk_alloc ?_ _)); refine blk_far ?_ NB501_500.out _; exact Pst.qb BK501.out) Tryz.underlying33 rfl (by kernel_rfl)) rfl ?_
 exact ⟨_, _, _, Pst.e1, by (with_reducible repeat (first | apply Kd.R_alloc | apply Kd.R_drewN | apply Kd.R_drew)); exact Kd.R_mono (Kd.R_far (p := ⟨gb501, 11, none⟩) (Kd.R_far (p := ⟨gb501, 10, none⟩) (Kd.R_far (p := ⟨gb501, 9, none⟩) (Kd.R_far (p := ⟨gb501, 8, none⟩) (Kd.R_far (p := ⟨gb501, 7, none⟩) (Kd.R_far (p := ⟨gb501, 6, none⟩) (Kd.R_far (p := ⟨gb501, 5, none⟩) (Kd.R_far (p := ⟨gb501, 4, none⟩) (Kd.R_far (p := ⟨gb501, 3, none⟩) (Kd.R_far (p := ⟨gb501, 2, none⟩) (Kd.R_far (p := ⟨gb501, 1, none⟩) (Kd.R_far (p := ⟨gb501, 0, none⟩) (Kd.R_far (p := ⟨gb500, 9, none⟩) (Kd.R_far (p := ⟨gb500, 8, none⟩) (Kd.R_far (p := ⟨gb500, 7, none⟩) (Kd.R_types (Kd.R_types HO504.out BK500.out (by decide)) BK501.out (by decide)) (fun _ hk => hk.1.2) (.slice Ao16 t510.length co16)) (fun _ hk => hk.1.2) (.int .i64 t513)) (fun _ hk => hk.1.2) (.int .i64 t514)) (fun _ hk => hk.2) (.int .i64 a0_0)) (fun _ hk => hk.2) (.int .i64 a0_1)) (fun _ hk => hk.2) (.int .i64 a0_2)) (fun _ hk => hk.2) (.slice Ao10 t502.length co10)) (fun _ hk => hk.2) (.slice Ao13 t505.length co13)) (fun _ hk => hk.2) (.int .i64 t508)) (fun _ hk => hk.2) (.int .i64 t509)) (fun _ hk => hk.2) (.slice Ao16 t510.length co16)) (fun _ hk => hk.2) (.int .i64 t513)) (fun _ hk => hk.2) (.int .i64 t514)) (fun _ hk => hk.2) (.int .i64 a0_10)) (fun _ hk => hk.2) (.int .i64 a0_11)) (fun _ hk => trivial), by (with_reducible repeat (first | apply Kd.R_alloc | apply Kd.R_drewN | apply Kd.R_drew)); exact Kd.R_mono (Kd.R_far (p := ⟨gb501, 11, none⟩) (Kd.R_far (p := ⟨gb501, 10, none⟩) (Kd.R_far (p := ⟨gb501, 9, none⟩) (Kd.R_far (p := ⟨gb501, 8, none⟩) (Kd.R_far (p := ⟨gb501, 7, none⟩) (Kd.R_far (p := ⟨gb501, 6, none⟩) (Kd.R_far (p := ⟨gb501, 5, none⟩) (Kd.R_far (p := ⟨gb501, 4, none⟩) (Kd.R_far (p := ⟨gb501, 3, none⟩) (Kd.R_far (p := ⟨gb501, 2, none⟩) (Kd.R_far (p := ⟨gb501, 1, none⟩) (Kd.R_far (p := ⟨gb501, 0, none⟩) (Kd.R_far (p := ⟨gb500, 9, none⟩) (Kd.R_far (p := ⟨gb500, 8, none⟩) (Kd.R_far (p := ⟨gb500, 7, none⟩) (Kd.R_types (Kd.R_types HO507.out BK500.out (by decide)) BK501.out (by decide)) (fun _ hk => hk.1.2) (.slice Ao16 t510.length co16)) (fun _ hk => hk.1.2) (.int .i64 t513)) (fun _ hk => hk.1.2) (.int .i64 t514)) (fun _ hk => hk.2) (.int .i64 a0_0)) (fun _ hk => hk.2) (.int .i64 a0_1)) (fun _ hk => hk.2) (.int .i64 a0_2)) (fun _ hk => hk.2) (.slice Ao10 t502.length co10)) (fun _ hk => hk.2) (.slice Ao13 t505.length co13)) (fun _ hk => hk.2) (.int .i64 t508)) (fun _ hk => hk.2) (.int .i64 t509)) (fun _ hk => hk.2) (.slice Ao16 t510.length co16)) (fun _ hk => hk.2) (.int .i64 t513)) (fun _ hk => hk.2) (.int .i64 t514)) (fun _ hk => hk.2) (.int .i64 a0_10)) (fun _ hk => hk.2) (.int .i64 a0_11)) (fun _ hk => hk.1.1.2), by (with_reducible repeat (first | apply Kd.R_alloc | apply Kd.R_drewN | apply Kd.R_drew)); exact Kd.R_mono (Kd.R_far (p := ⟨gb501, 11, none⟩) (Kd.R_far (p := ⟨gb501, 10, none⟩) (Kd.R_far (p := ⟨gb501, 9, none⟩) (Kd.R_far (p := ⟨gb501, 8, none⟩) (Kd.R_far (p := ⟨gb501, 7, none⟩) (Kd.R_far (p := ⟨gb501, 6, none⟩) (Kd.R_far (p := ⟨gb501, 5, none⟩) (Kd.R_far (p := ⟨gb501, 4, none⟩) (Kd.R_far (p := ⟨gb501, 3, none⟩) (Kd.R_far (p := ⟨gb501, 2, none⟩) (Kd.R_far (p := ⟨gb501, 1, none⟩) (Kd.R_far (p := ⟨gb501, 0, none⟩) (Kd.R_far (p := ⟨gb500, 9, none⟩) (Kd.R_far (p := ⟨gb500, 8, none⟩) (Kd.R_far (p := ⟨gb500, 7, none⟩) (Kd.R_types (Kd.R_types HO512.out BK500.out (by decide)) BK501.out (by decide)) (fun _ hk => hk.1.2) (.slice Ao16 t510.length co16)) (fun _ hk => hk.1.2) (.int .i64 t513)) (fun _ hk => hk.1.2) (.int .i64 t514)) (fun _ hk => hk.2) (.int .i64 a0_0)) (fun _ hk => hk.2) (.int .i64 a0_1)) (fun _ hk => hk.2) (.int .i64 a0_2)) (fun _ hk => hk.2) (.slice Ao10 t502.length co10)) (fun _ hk => hk.2) (.slice Ao13 t505.length co13)) (fun _ hk => hk.2) (.int .i64 t508)) (fun _ hk => hk.2) (.int .i64 t509)) (fun _ hk => hk.2) (.slice Ao16 t510.length co16)) (fun _ hk => hk.2) (.int .i64 t513)) (fun _ hk => hk.2) (.int .i64 t514)) (fun _ hk => hk.2) (.int .i64 a0_10)) (fun _ hk => hk.2) (.int .i64 a0_11)) (fun _ hk => hk.1.1.2), Pst.bes⟩

/-! ### impl_atoi: function 27 -/
/-- The number of a text, 0 where it has none. -/
def atoiOr (l : List UInt8) : Int := match Lib.atoiAll l with | .ok v => v | _ => 0
def impl_atoi.f (a0 : ByteArray) : Option Int := if a0.size ≤ 4294967280 then some (atoiOr a0.data.toList) else none
theorem impl_atoi.calls (a0 : ByteArray) (r : Int) (w : World) (h : impl_atoi.f a0 = some r) (ht_ : Tab w := by exact HT.out.on Pst.bel) :
    Calls Tryz.prog 27 #[.string a0] w fun e w' => e = .returned (.int .i64 r) ∧ Below w.heap.size w w' := by
 unfold impl_atoi.f at h
 by_cases hb : a0.size ≤ 4294967280
 ·rw [if_pos hb] at h
  obtain rfl := Option.some.inj h
  obtain ⟨_, _, ⟨ev0, hv0, he0⟩, ev1, hv1, he1⟩ := ht_
  clear h
  cases h : Lib.atoiAll a0.data.toList with
  | ok v =>
   have hr : atoiOr a0.data.toList = v := by simp only [atoiOr, h]
   rw [hr]
   go_enter Tryz.func27, Tryz.ntmps27
   go_wp2_with (go_at_call 47; refine (Tryz.strconv_Atoi_ok a0 (by omega) v h _).mono ?_; rintro e w' ⟨rfl, hw⟩)
   go_ret
   refine ⟨rfl, ?_⟩
   rcases hw with rfl | ⟨t, rfl⟩
   ·exact Below.refl _ _
   ·exact Lib.bytesWorld_below _ _ _
  | range =>
   have hr : atoiOr a0.data.toList = 0 := by simp only [atoiOr, h]
   rw [hr]
   go_enter Tryz.func27, Tryz.ntmps27
   go_wp2_with (go_at_call 47; refine (Tryz.strconv_Atoi_range a0 (by omega) h ev1 _ ?_ he1).mono ?_)
   ·exact hv1
   rintro e W1 ⟨N, rfl, -, -, hb1⟩
   go_wp2
   go_ret
   exact ⟨rfl, hb1⟩
  | _ =>
   have hr : atoiOr a0.data.toList = 0 := by simp only [atoiOr, h]
   rw [hr]
   go_enter Tryz.func27, Tryz.ntmps27
   go_wp2_with (go_at_call 47; refine (Tryz.strconv_Atoi_syntax a0 (by omega) h ev0 _ ?_ he0).mono ?_)
   ·exact hv0
   rintro e W1 ⟨N, rfl, -, -, hb1⟩
   go_wp2
   go_ret
   exact ⟨rfl, hb1⟩
 ·rw [if_neg hb] at h
  cases h

/-! ### strings_TrimSuffix: function 28 -/
def strings_TrimSuffix.f (a0 a1 : ByteArray) : Option ByteArray := if a0.size ≤ 4294967280 then some ⟨(Lib.trimSuffix a0.data.toList a1.data.toList).toArray⟩ else none
theorem strings_TrimSuffix.calls (a0 a1 : ByteArray) (r : ByteArray) (w : World) (h : strings_TrimSuffix.f a0 a1 = some r) :
    Calls Tryz.prog 28 #[.string a0, .string a1] w fun e w' => e = .returned (.string r) ∧ Below w.heap.size w w' := by
 unfold strings_TrimSuffix.f at h
 by_cases hb : a0.size ≤ 4294967280
 ·rw [if_pos hb] at h
  obtain rfl := Option.some.inj h
  refine (Tryz.strings_TrimSuffix a0 a1 w (by omega)).mono ?_
  rintro e w' ⟨rfl, rfl⟩
  exact ⟨rfl, Below.refl _ _⟩
 ·rw [if_neg hb] at h
  cases h

end Go.Proofs.YtidkiabehmdofaaGreatDoor.PA
