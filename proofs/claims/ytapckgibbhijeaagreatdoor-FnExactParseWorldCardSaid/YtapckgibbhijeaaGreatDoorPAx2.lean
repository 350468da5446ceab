/- Functions of the program, of the reference and of the statements: each as a plain Lean function, and a proof that the machine's call answers what that one answers. Written by a program: the kit's print, with contracts of our own for what it does not take. No condition. -/
import Derived.Test.YtapckgibbhijeaaGreatDoorPAx0
import Derived.Test.YtapckgibbhijeaaGreatDoorPAx1
namespace Go.Proofs.YtapckgibbhijeaaGreatDoor.PA
set_option maxHeartbeats 8000000
set_option maxRecDepth 100000
open Go.RowKit Go.Proofs.YtapckgibbhijeaaGreatDoorW.PrintWords Go.Proofs.YtapckgibbhijeaaGreatDoorW.PrintLast Go.Proofs.YtapckgibbhijeaaGreatDoorW.PrintMore
attribute [local go_sem] max2_int min2_int max_two min_two max_three min_three max_four min_four   -- for this text's walks alone
set_option linter.unusedVariables false
set_option linter.unusedSimpArgs false

/-! ### impl_WorldOk: function 29 -/
mutual
def impl_WorldOk.l0 : Nat → List Int → Int → Int → Int → Int → Int → List (S82) → List (S102) → Int → Int → List (S102) → Int → Int → Int → Int → List Int → Int → Int → Int → Option (Bool)
 | 0, _, _, _, _, _, _, _, _, _, _, _, _, _, _, _, _, _, _, _ => none
 | k + 1, x7, x8, x9, x170000, x170001, x170002, x170003, x170004, x170005, x170006, x170007, x170008, x170009, x170010, x170011, x170012, x170013, x170014, x170015 => if x9 < x8 then (if 0 ≤ x9 then (if x9 < (x7.length : Int) then ((impl_in.f (rd x7 x9) 0 100000).bind fun t171 => (if t171 = true then (impl_WorldOk.l0 k x7 x8 (wrap64 (x9 + 1)) x170000 x170001 x170002 x170003 x170004 x170005 x170006 x170007 x170008 x170009 x170010 x170011 x170012 x170013 x170014 x170015) else (some false))) else (none)) else (none)) else ((impl_SetupOk.f k x170000 x170001 x170002 x170003 x170004 x170005 x170006 x170007 x170008 x170009 x170010 x170011).bind fun t172 => (if t172 = true then (if (x170003.length : Int) = 1 then (if 0 < (x170003.length : Int) then (impl_WorldOk.j1 k (((rd_T82 x170003 0).f0).toList == ([99, 112, 117] : List UInt8)) x170000 x170001 x170002 x170003 x170004 x170005 x170006 x170007 x170008 x170009 x170010 x170011 x170012 x170013 x170014 x170015) else (none)) else (impl_WorldOk.j1 k false x170000 x170001 x170002 x170003 x170004 x170005 x170006 x170007 x170008 x170009 x170010 x170011 x170012 x170013 x170014 x170015)) else (impl_WorldOk.j1 k false x170000 x170001 x170002 x170003 x170004 x170005 x170006 x170007 x170008 x170009 x170010 x170011 x170012 x170013 x170014 x170015)))
def impl_WorldOk.j1 : Nat → Bool → Int → Int → Int → List (S82) → List (S102) → Int → Int → List (S102) → Int → Int → Int → Int → List Int → Int → Int → Int → Option (Bool)
 | 0, _, _, _, _, _, _, _, _, _, _, _, _, _, _, _, _, _ => none
 | k + 1, x5, x170000, x170001, x170002, x170003, x170004, x170005, x170006, x170007, x170008, x170009, x170010, x170011, x170012, x170013, x170014, x170015 => if x5 = true then ((impl_in.f (x170012.length : Int) 1 20).bind fun t174 => (if t174 = true then ((impl_in.f x170013 0 50).bind fun t175 => (if t175 = true then ((impl_in.f x170014 1 50).bind fun t176 => (if t176 = true then ((impl_in.f x170015 1 12).bind fun t177 => (some t177)) else (some false))) else (some false))) else (some false))) else (some false)
end
def impl_WorldOk.f (k : Nat) (a0_0 : Int) (a0_1 : Int) (a0_2 : Int) (l0_3 : List (S82)) (l0_4 : List (S102)) (a0_5 : Int) (a0_6 : Int) (l0_7 : List (S102)) (a0_8 : Int) (a0_9 : Int) (a0_10 : Int) (a0_11 : Int) (l0_12 : List Int) (a0_13 : Int) (a0_14 : Int) (a0_15 : Int) : Option (Bool) := impl_WorldOk.l0 k l0_12 (l0_12.length : Int) 0 a0_0 a0_1 a0_2 l0_3 l0_4 a0_5 a0_6 l0_7 a0_8 a0_9 a0_10 a0_11 l0_12 a0_13 a0_14 a0_15
theorem impl_WorldOk.mono_l : ∀ k, (∀ y0 y1 y2 y3 y4 y5 y6 y7 y8 y9 y10 y11 y12 y13 y14 y15 y16 y17 y18, LeO (impl_WorldOk.l0 k y0 y1 y2 y3 y4 y5 y6 y7 y8 y9 y10 y11 y12 y13 y14 y15 y16 y17 y18) (impl_WorldOk.l0 (k + 1) y0 y1 y2 y3 y4 y5 y6 y7 y8 y9 y10 y11 y12 y13 y14 y15 y16 y17 y18)) ∧ (∀ y0 y1 y2 y3 y4 y5 y6 y7 y8 y9 y10 y11 y12 y13 y14 y15 y16, LeO (impl_WorldOk.j1 k y0 y1 y2 y3 y4 y5 y6 y7 y8 y9 y10 y11 y12 y13 y14 y15 y16) (impl_WorldOk.j1 (k + 1) y0 y1 y2 y3 y4 y5 y6 y7 y8 y9 y10 y11 y12 y13 y14 y15 y16))
 | 0 => ⟨fun _ _ _ _ _ _ _ _ _ _ _ _ _ _ _ _ _ _ _ r h => by simp [impl_WorldOk.l0] at h, fun _ _ _ _ _ _ _ _ _ _ _ _ _ _ _ _ _ r h => by simp [impl_WorldOk.j1] at h⟩
 | k + 1 => by
  obtain ⟨ih0, ih1⟩ := impl_WorldOk.mono_l k
  refine ⟨?_, ?_⟩
  ·intro y0 y1 y2 y3 y4 y5 y6 y7 y8 y9 y10 y11 y12 y13 y14 y15 y16 y17 y18
   unfold impl_WorldOk.l0
   have m0 := @impl_SetupOk.mono
   exact Pst.mo
  intro y0 y1 y2 y3 y4 y5 y6 y7 y8 y9 y10 y11 y12 y13 y14 y15 y16
  unfold impl_WorldOk.j1
  have m0 := @impl_SetupOk.mono
  exact Pst.mo
theorem impl_WorldOk.mono : ∀ a0 a1 a2 a3 a4 a5 a6 a7 a8 a9 a10 a11 a12 a13 a14 a15 k, LeO (impl_WorldOk.f k a0 a1 a2 a3 a4 a5 a6 a7 a8 a9 a10 a11 a12 a13 a14 a15) (impl_WorldOk.f (k + 1) a0 a1 a2 a3 a4 a5 a6 a7 a8 a9 a10 a11 a12 a13 a14 a15) := by
 intro a0 a1 a2 a3 a4 a5 a6 a7 a8 a9 a10 a11 a12 a13 a14 a15 k
 obtain ⟨ih0, ih1⟩ := impl_WorldOk.mono_l k
 unfold impl_WorldOk.f
 have m0 := @impl_SetupOk.mono
 exact Pst.mo
theorem impl_WorldOk.calls (k : Nat) (a0_0 : Int) (a0_1 : Int) (a0_2 : Int) (A0_3 : Option Addr) (c0_3 : Nat) (l0_3 : List (S82)) (A0_4 : Option Addr) (c0_4 : Nat) (l0_4 : List (S102)) (a0_5 : Int) (a0_6 : Int) (A0_7 : Option Addr) (c0_7 : Nat) (l0_7 : List (S102)) (a0_8 : Int) (a0_9 : Int) (a0_10 : Int) (a0_11 : Int) (A0_12 : Option Addr) (c0_12 : Nat) (l0_12 : List Int) (a0_13 : Int) (a0_14 : Int) (a0_15 : Int) (r : Bool) (w : World) (hr0_3 : Kd.C k82 w A0_3 l0_3.length l0_3) (hc0_3 : l0_3.length ≤ c0_3) (hr0_4 : Kd.C k102 w A0_4 l0_4.length l0_4) (hc0_4 : l0_4.length ≤ c0_4) (hr0_7 : Kd.C k102 w A0_7 l0_7.length l0_7) (hc0_7 : l0_7.length ≤ c0_7) (hr0_12 : Kd.C (Kd.int .i64) w A0_12 l0_12.length l0_12) (hc0_12 : l0_12.length ≤ c0_12) (h : impl_WorldOk.f k a0_0 a0_1 a0_2 l0_3 l0_4 a0_5 a0_6 l0_7 a0_8 a0_9 a0_10 a0_11 l0_12 a0_13 a0_14 a0_15 = some r) :
 Calls Tryz.prog 29 #[.agg #[.int .i64 a0_0, .int .i64 a0_1, .int .i64 a0_2, .slice A0_3 l0_3.length c0_3, .slice A0_4 l0_4.length c0_4, .int .i64 a0_5, .int .i64 a0_6, .slice A0_7 l0_7.length c0_7, .int .i64 a0_8, .int .i64 a0_9, .int .i64 a0_10, .int .i64 a0_11, .slice A0_12 l0_12.length c0_12, .int .i64 a0_13, .int .i64 a0_14, .int .i64 a0_15]] w fun e w' => e = .returned (.bool r) ∧ Below w.heap.size w w' := by
 have hu44 := Tryz.underlying44
 have hu41 := Tryz.underlying41
 have HR0_3 := Pst.A hr0_3
 have HC0_3 := Pst.A hc0_3
 clear hr0_3 hc0_3
 have HR0_4 := Pst.A hr0_4
 have HC0_4 := Pst.A hc0_4
 clear hr0_4 hc0_4
 have HR0_7 := Pst.A hr0_7
 have HC0_7 := Pst.A hc0_7
 clear hr0_7 hc0_7
 have HR0_12 := Pst.A hr0_12
 have HC0_12 := Pst.A hc0_12
 clear hr0_12 hc0_12
 have HB := Pst.A (Below.refl w.heap.size w)
 have H : (impl_WorldOk.l0 k l0_12 (l0_12.length : Int) 0 a0_0 a0_1 a0_2 l0_3 l0_4 a0_5 a0_6 l0_7 a0_8 a0_9 a0_10 a0_11 l0_12 a0_13 a0_14 a0_15) = some r := h
 clear h
 have H' := Pst.A H
 clear H
 go_enter Tryz.func29, Tryz.ntmps29
 go_wp2_with (first | ((with_reducible refine gate_dst (N := 1) rfl ?_); (try (refine gate_guard (by rfl) ?_; dsimp only)); refine Pst.bx 1 #[.int .i64 a0_0, .int .i64 a0_1, .int .i64 a0_2, .slice A0_3 l0_3.length c0_3, .slice A0_4 l0_4.length c0_4, .int .i64 a0_5, .int .i64 a0_6, .slice A0_7 l0_7.length c0_7, .int .i64 a0_8, .int .i64 a0_9, .int .i64 a0_10, .int .i64 a0_11, .slice A0_12 l0_12.length c0_12, .int .i64 a0_13, .int .i64 a0_14, .int .i64 a0_15] 44 ?_; intro gb169 hg w2 hbox hb; have BK169 := Pst.A hbox; have GW169 := Pst.A (Pst.gs hg : w.heap.size ≤ gb169); have GE169 := Pst.A (Pst.gs hg : w.heap.size ≤ gb169); replace HB := Pst.A (below_step Pst.bel hb); clear hb hbox hg; obtain ⟨hcz3_0, hcz3_1, hcz3_2, hcz3_3, hcz3_4, hcz3_5, hcz3_6, hcz3_7, hcz3_8, hcz3_9, hcz3_10, hcz3_11, hcz3_12, hcz3_13, hcz3_14, hcz3_15⟩ := Pst.c16 BK169.out; obtain ⟨hfz3_0, hfz3_1, hfz3_2, hfz3_3, hfz3_4, hfz3_5, hfz3_6, hfz3_7, hfz3_8, hfz3_9, hfz3_10, hfz3_11, hfz3_12, hfz3_13, hfz3_14, hfz3_15⟩ := Pst.f16 BK169.out))
 go_loopg [9] k (fun kq v9 w' => ∃ (x9_1 : Int), v9 = .int .i64 x9_1 ∧ Aside0 (impl_WorldOk.l0 kq l0_12 (l0_12.length : Int) x9_1 a0_0 a0_1 a0_2 l0_3 l0_4 a0_5 a0_6 l0_7 a0_8 a0_9 a0_10 a0_11 l0_12 a0_13 a0_14 a0_15 = some r) ∧ Aside0 (kq ≤ k) ∧ Aside0 (w'.heap[gb169]? = some (.cells #[.int .i64 a0_0, .int .i64 a0_1, .int .i64 a0_2, (.slice A0_3 l0_3.length c0_3), (.slice A0_4 l0_4.length c0_4), .int .i64 a0_5, .int .i64 a0_6, (.slice A0_7 l0_7.length c0_7), .int .i64 a0_8, .int .i64 a0_9, .int .i64 a0_10, .int .i64 a0_11, (.slice A0_12 l0_12.length c0_12), .int .i64 a0_13, .int .i64 a0_14, .int .i64 a0_15] 44 (0, 0))) ∧ Aside0 (Below w.heap.size w w'))
 case atStart => exact ⟨(0), Pst.e2, H', ⟨Nat.le_refl _⟩, ⟨by exact Pst.qb BK169.out⟩, ⟨Pst.bes⟩⟩
 clear H'
 try clear c2
 try clear p2
 obtain ⟨x9_1, rfl, HA, HK1, BK169, HB⟩ := hrel
 cases gk with
 | zero => exact absurd HA.out (by simp [impl_WorldOk.l0])
 | succ k1 =>
  have H := HA.out
  clear HA
  simp only [impl_WorldOk.l0] at H
  by_cases c4 : x9_1 < (l0_12.length : Int)
  ·rw [if_pos c4] at H
   have c4b0 : decide (x9_1 < (l0_12.length : Int)) = true := decide_eq_true c4
   clear c4
   by_cases c5 : 0 ≤ x9_1
   ·rw [if_pos c5] at H
    have c5b0 : decide (0 ≤ x9_1) = true := decide_eq_true c5
    clear c5
    by_cases c6 : x9_1 < (l0_12.length : Int)
    ·rw [if_pos c6] at H
     have c6b0 : decide (x9_1 < (l0_12.length : Int)) = true := decide_eq_true c6
     clear c6
     obtain ⟨t171, A70, H⟩ := Pst.bd H
     have A7 := Pst.A A70
     clear A70
     by_cases c8 : t171 = true
     ·subst c8
      rw [if_pos rfl] at H
      have H' := Pst.A H
      clear H
      have p170 : 0 ≤ (x9_1 : Int) := Pst.da
      have q170 : x9_1 < (l0_12.length : Int) := Pst.da
      obtain ⟨ad170, e170, hx170_0⟩ := Kd.at_int HR0_12.out x9_1 p170 q170
      cases e170
      replace hx170_0 := (HB.out.cell (World.block_lt_of_cell? w _ hx170_0)).trans hx170_0
      replace p170 := eq_true p170
      replace q170 := eq_true q170
      go_wp2_with (first | ((with_reducible refine gate_callee (f := 24) rfl ?_); refine goesL_ (some 14) rfl rfl Tryz.func24 (by kernel_rfl) rfl #[.int .i64 (rd l0_12 x9_1), .int .i64 0, .int .i64 100000] rfl Pst.ga ?_; (with_reducible refine (impl_in.calls (rd l0_12 x9_1) 0 100000 true _ A7.out).mono ?_); rintro e w' ⟨rfl, ⟨nd, rfl⟩⟩; refine ⟨_, rfl, ?_⟩))
      go_roundg k1
      case measure => have := HK1.out; omega
      case rel => exact ⟨(wrap64 (x9_1 + 1)), Pst.e2, H', ⟨by have := HK1.out; omega⟩, ⟨by exact Pst.qb BK169.out⟩, ⟨Pst.bes⟩⟩
     replace c8 := Bool.eq_false_iff.mpr c8
     subst c8
     rw [if_neg Pst.ft] at H
     obtain rfl := Option.some.inj H
     have p170 : 0 ≤ (x9_1 : Int) := Pst.da
     have q170 : x9_1 < (l0_12.length : Int) := Pst.da
     obtain ⟨ad170, e170, hx170_0⟩ := Kd.at_int HR0_12.out x9_1 p170 q170
     cases e170
     replace hx170_0 := (HB.out.cell (World.block_lt_of_cell? w _ hx170_0)).trans hx170_0
     replace p170 := eq_true p170
     replace q170 := eq_true q170
     go_wp2_with (first | ((with_reducible refine gate_callee (f := 24) rfl ?_); refine goesL_ (some 14) rfl rfl Tryz.func24 (by kernel_rfl) rfl #[.int .i64 (rd l0_12 x9_1), .int .i64 0, .int .i64 100000] rfl Pst.ga ?_; (with_reducible refine (impl_in.calls (rd l0_12 x9_1) 0 100000 false _ A7.out).mono ?_); rintro e w' ⟨rfl, ⟨nd, rfl⟩⟩; refine ⟨_, rfl, ?_⟩))
     go_ret
     exact ⟨Pst.e1, Pst.bes⟩
    rw [if_neg c6] at H
    exact absurd H (by simp)
   rw [if_neg c5] at H
   exact absurd H (by simp)
  rw [if_neg c4] at H
  have c4b0 : decide (x9_1 < (l0_12.length : Int)) = false := decide_eq_false c4
  clear c4
  have HC9 := Pst.A H
  clear H
  go_upto_region 7 with (fail)
  go_cut [5] (fun v5 wc => ∃ (kq : Nat) (x5_8 : Bool), v5 = .bool x5_8 ∧ Aside0 (impl_WorldOk.j1 kq x5_8 a0_0 a0_1 a0_2 l0_3 l0_4 a0_5 a0_6 l0_7 a0_8 a0_9 a0_10 a0_11 l0_12 a0_13 a0_14 a0_15 = some r) ∧ Aside0 (kq ≤ k1) ∧ Aside0 (wc.heap[gb169]? = some (.cells #[.int .i64 a0_0, .int .i64 a0_1, .int .i64 a0_2, (.slice A0_3 l0_3.length c0_3), (.slice A0_4 l0_4.length c0_4), .int .i64 a0_5, .int .i64 a0_6, (.slice A0_7 l0_7.length c0_7), .int .i64 a0_8, .int .i64 a0_9, .int .i64 a0_10, .int .i64 a0_11, (.slice A0_12 l0_12.length c0_12), .int .i64 a0_13, .int .i64 a0_14, .int .i64 a0_15] 44 (0, 0))) ∧ Aside0 (Below w.heap.size w wc))
  case first =>
   have H := HC9.out
   clear HC9
   obtain ⟨t172, A100, H⟩ := Pst.bd H
   have A10 := Pst.A A100
   clear A100
   by_cases c11 : t172 = true
   ·subst c11
    rw [if_pos rfl] at H
    by_cases c12 : (l0_3.length : Int) = 1
    ·rw [if_pos c12] at H
     have c12b0 : ((l0_3.length : Int) == 1) = true := beq_iff_eq.mpr c12
     have c12b1 : ((l0_3.length : Int) != 1) = false := bne_eq_false_iff_eq.mpr c12
     clear c12
     (first | rw [c12b0] | (simp only [i64_w, i32_w]; rw [c12b0]) | skip)
     by_cases c13 : 0 < (l0_3.length : Int)
     ·rw [if_pos c13] at H
      have c13b0 : decide (0 < (l0_3.length : Int)) = true := decide_eq_true c13
      have c13b1 : decide (0 < l0_3.length) = true := decide_eq_true (by omega)
      clear c13
      have H' := Pst.A H
      clear H
      obtain ⟨hcz14_0, hcz14_1, hcz14_2, hcz14_3, hcz14_4, hcz14_5, hcz14_6, hcz14_7, hcz14_8, hcz14_9, hcz14_10, hcz14_11, hcz14_12, hcz14_13, hcz14_14, hcz14_15⟩ := Pst.c16 BK169.out
      obtain ⟨hfz14_0, hfz14_1, hfz14_2, hfz14_3, hfz14_4, hfz14_5, hfz14_6, hfz14_7, hfz14_8, hfz14_9, hfz14_10, hfz14_11, hfz14_12, hfz14_13, hfz14_14, hfz14_15⟩ := Pst.f16 BK169.out
      go_wp2_with (first | ((with_reducible refine gate_callee (f := 58) rfl ?_); refine goesL_ (some 19) rfl rfl Tryz.func58 (by kernel_rfl) rfl #[.agg #[.int .i64 a0_0, .int .i64 a0_1, .int .i64 a0_2, .slice A0_3 l0_3.length c0_3, .slice A0_4 l0_4.length c0_4, .int .i64 a0_5, .int .i64 a0_6, .slice A0_7 l0_7.length c0_7, .int .i64 a0_8, .int .i64 a0_9, .int .i64 a0_10, .int .i64 a0_11]] rfl Pst.ga ?_; (with_reducible refine (impl_SetupOk.calls k1 a0_0 a0_1 a0_2 _ _ l0_3 _ _ l0_4 a0_5 a0_6 _ _ l0_7 a0_8 a0_9 a0_10 a0_11 true _ ?side1 ?side2 ?side3 ?side4 ?side5 ?side6 A10.out).mono ?_); (case side1 => exact Pst.qc (Kd.C_below HR0_3.out HB.out)); (case side2 => exact HC0_3.out); (case side3 => exact Pst.qc (Kd.C_below HR0_4.out HB.out)); (case side4 => exact HC0_4.out); (case side5 => exact Pst.qc (Kd.C_below HR0_7.out HB.out)); (case side6 => exact HC0_7.out); rintro e w15 ⟨rfl, hb⟩; refine ⟨_, rfl, ?_⟩; replace BK169 := Pst.A (Pst.kb BK169.out hb); replace HB := Pst.A (below_step Pst.bes hb); (try clear hb); (try clear hb2); (try clear hk); (try clear hi); obtain ⟨hcz16_0, hcz16_1, hcz16_2, hcz16_3, hcz16_4, hcz16_5, hcz16_6, hcz16_7, hcz16_8, hcz16_9, hcz16_10, hcz16_11, hcz16_12, hcz16_13, hcz16_14, hcz16_15⟩ := Pst.c16 BK169.out; obtain ⟨hfz16_0, hfz16_1, hfz16_2, hfz16_3, hfz16_4, hfz16_5, hfz16_6, hfz16_7, hfz16_8, hfz16_9, hfz16_10, hfz16_11, hfz16_12, hfz16_13, hfz16_14, hfz16_15⟩ := Pst.f16 BK169.out; have p173 : 0 ≤ (0 : Int) := (by omega); have q173 : 0 < (l0_3.length : Int) := Pst.da; obtain ⟨ad173, e173, hx173_0, hx173_1, hx173_2⟩ := at_T82 HR0_3.out 0 p173 q173; cases e173; have qi173 : (0 < l0_3.length) = True := eq_true (by omega); (try rw [show ((0 : Int)).toNat = 0 from rfl] at hx173_0); (try rw [show 0 * 3 = 0 from rfl] at hx173_0); (try rw [Addr.add_zero'] at hx173_0); (try rw [show ((0 : Int)).toNat = 0 from rfl] at hx173_1); (try rw [show 0 * 3 = 0 from rfl] at hx173_1); (try rw [Addr.add_zero'] at hx173_1); (try rw [show ((0 : Int)).toNat = 0 from rfl] at hx173_2); (try rw [show 0 * 3 = 0 from rfl] at hx173_2); (try rw [Addr.add_zero'] at hx173_2); replace hx173_0 := (HB.out.cell (World.block_lt_of_cell? w _ hx173_0)).trans hx173_0; replace hx173_1 := (HB.out.cell (World.block_lt_of_cell? w _ hx173_1)).trans hx173_1; replace hx173_2 := (HB.out.cell (World.block_lt_of_cell? w _ hx173_2)).trans hx173_2; replace p173 := eq_true p173; replace q173 := eq_true q173))
      go_meet
      case rel => exact ⟨_, ((((rd_T82 l0_3 0).f0).toList == ([99, 112, 117] : List UInt8))), Pst.e2, H', ⟨by have := HK1.out; first | omega | exact Nat.le_refl _⟩, ⟨by exact Pst.qb BK169.out⟩, ⟨Pst.bes⟩⟩
     rw [if_neg c13] at H
     exact absurd H (by simp)
    rw [if_neg c12] at H
    have c12b0 : ((l0_3.length : Int) == 1) = false := beq_eq_false_iff_ne.mpr c12
    have c12b1 : ((l0_3.length : Int) != 1) = true := bne_iff_ne.mpr c12
    (first | rw [c12b0] | (simp only [i64_w, i32_w]; rw [c12b0]) | skip)
    have H' := Pst.A H
    clear H
    obtain ⟨hcz17_0, hcz17_1, hcz17_2, hcz17_3, hcz17_4, hcz17_5, hcz17_6, hcz17_7, hcz17_8, hcz17_9, hcz17_10, hcz17_11, hcz17_12, hcz17_13, hcz17_14, hcz17_15⟩ := Pst.c16 BK169.out
    obtain ⟨hfz17_0, hfz17_1, hfz17_2, hfz17_3, hfz17_4, hfz17_5, hfz17_6, hfz17_7, hfz17_8, hfz17_9, hfz17_10, hfz17_11, hfz17_12, hfz17_13, hfz17_14, hfz17_15⟩ := Pst.f16 BK169.out
    go_wp2_with (first | ((with_reducible refine gate_callee (f := 58) rfl ?_); refine goesL_ (some 19) rfl rfl Tryz.func58 (by kernel_rfl) rfl #[.agg #[.int .i64 a0_0, .int .i64 a0_1, .int .i64 a0_2, .slice A0_3 l0_3.length c0_3, .slice A0_4 l0_4.length c0_4, .int .i64 a0_5, .int .i64 a0_6, .slice A0_7 l0_7.length c0_7, .int .i64 a0_8, .int .i64 a0_9, .int .i64 a0_10, .int .i64 a0_11]] rfl Pst.ga ?_; (with_reducible refine (impl_SetupOk.calls k1 a0_0 a0_1 a0_2 _ _ l0_3 _ _ l0_4 a0_5 a0_6 _ _ l0_7 a0_8 a0_9 a0_10 a0_11 true _ ?side1 ?side2 ?side3 ?side4 ?side5 ?side6 A10.out).mono ?_); (case side1 => exact Pst.qc (Kd.C_below HR0_3.out HB.out)); (case side2 => exact HC0_3.out); (case side3 => exact Pst.qc (Kd.C_below HR0_4.out HB.out)); (case side4 => exact HC0_4.out); (case side5 => exact Pst.qc (Kd.C_below HR0_7.out HB.out)); (case side6 => exact HC0_7.out); rintro e w18 ⟨rfl, hb⟩; refine ⟨_, rfl, ?_⟩; replace BK169 := Pst.A (Pst.kb BK169.out hb); replace HB := Pst.A (below_step Pst.bes hb); (try clear hb); (try clear hb2); (try clear hk); (try clear hi); obtain ⟨hcz19_0, hcz19_1, hcz19_2, hcz19_3, hcz19_4, hcz19_5, hcz19_6, hcz19_7, hcz19_8, hcz19_9, hcz19_10, hcz19_11, hcz19_12, hcz19_13, hcz19_14, hcz19_15⟩ := Pst.c16 BK169.out; obtain ⟨hfz19_0, hfz19_1, hfz19_2, hfz19_3, hfz19_4, hfz19_5, hfz19_6, hfz19_7, hfz19_8, hfz19_9, hfz19_10, hfz19_11, hfz19_12, hfz19_13, hfz19_14, hfz19_15⟩ := Pst.f16 BK169.out))
    go_meet
    case rel => exact ⟨_, (false), Pst.e2, H', ⟨by have := HK1.out; first | omega | exact Nat.le_refl _⟩, ⟨by exact Pst.qb BK169.out⟩, ⟨Pst.bes⟩⟩
   replace c11 := Bool.eq_false_iff.mpr c11
   subst c11
   rw [if_neg Pst.ft] at H
   have H' := Pst.A H
   clear H
   obtain ⟨hcz20_0, hcz20_1, hcz20_2, hcz20_3, hcz20_4, hcz20_5, hcz20_6, hcz20_7, hcz20_8, hcz20_9, hcz20_10, hcz20_11, hcz20_12, hcz20_13, hcz20_14, hcz20_15⟩ := Pst.c16 BK169.out
   obtain ⟨hfz20_0, hfz20_1, hfz20_2, hfz20_3, hfz20_4, hfz20_5, hfz20_6, hfz20_7, hfz20_8, hfz20_9, hfz20_10, hfz20_11, hfz20_12, hfz20_13, hfz20_14, hfz20_15⟩ := Pst.f16 BK169.out
   go_wp2_with (first | ((with_reducible refine gate_callee (f := 58) rfl ?_); refine goesL_ (some 19) rfl rfl Tryz.func58 (by kernel_rfl) rfl #[.agg #[.int .i64 a0_0, .int .i64 a0_1, .int .i64 a0_2, .slice A0_3 l0_3.length c0_3, .slice A0_4 l0_4.length c0_4, .int .i64 a0_5, .int .i64 a0_6, .slice A0_7 l0_7.length c0_7, .int .i64 a0_8, .int .i64 a0_9, .int .i64 a0_10, .int .i64 a0_11]] rfl Pst.ga ?_; (with_reducible refine (impl_SetupOk.calls k1 a0_0 a0_1 a0_2 _ _ l0_3 _ _ l0_4 a0_5 a0_6 _ _ l0_7 a0_8 a0_9 a0_10 a0_11 false _ ?side1 ?side2 ?side3 ?side4 ?side5 ?side6 A10.out).mono ?_); (case side1 => exact Pst.qc (Kd.C_below HR0_3.out HB.out)); (case side2 => exact HC0_3.out); (case side3 => exact Pst.qc (Kd.C_below HR0_4.out HB.out)); (case side4 => exact HC0_4.out); (case side5 => exact Pst.qc (Kd.C_below HR0_7.out HB.out)); (case side6 => exact HC0_7.out); rintro e w21 ⟨rfl, hb⟩; refine ⟨_, rfl, ?_⟩; replace BK169 := Pst.A (Pst.kb BK169.out hb); replace HB := Pst.A (below_step Pst.bes hb); (try clear hb); (try clear hb2); (try clear hk); (try clear hi)))
   go_meet
   case rel => exact ⟨_, (false), Pst.e2, H', ⟨by have := HK1.out; first | omega | exact Nat.le_refl _⟩, ⟨by exact Pst.qb BK169.out⟩, ⟨Pst.bes⟩⟩
  clear HC9
  try clear c1
  try clear p1
  try clear q1
  try clear hx1
  try clear qi1
  try clear c2
  try clear p2
  try clear c4
  try clear c4b0
  try clear c5
  try clear c5b0
  try clear c6
  try clear c6b0
  try clear p6
  try clear c8
  try clear c11
  try clear c12
  try clear c12b0
  try clear c12b1
  try clear c13
  try clear c13b0
  try clear c13b1
  try clear p17
  try clear q17
  try clear hx17
  try clear qi17
  try clear hx170_0
  try clear hx173_0
  try clear hx173_1
  try clear hx173_2
  try clear p170
  try clear p173
  try clear p2
  try clear q170
  try clear q173
  obtain ⟨kq, x5_8, rfl, HA, HJ8, BK169, HB⟩ := hcut
  cases kq with
  | zero => exact absurd HA.out (by simp [impl_WorldOk.j1])
  | succ kj8 =>
   have H := HA.out
   clear HA
   simp only [impl_WorldOk.j1] at H
   by_cases c22 : x5_8 = true
   ·subst c22
    rw [if_pos rfl] at H
    obtain ⟨t174, A230, H⟩ := Pst.bd H
    have A23 := Pst.A A230
    clear A230
    by_cases c24 : t174 = true
    ·subst c24
     rw [if_pos rfl] at H
     obtain ⟨t175, A250, H⟩ := Pst.bd H
     have A25 := Pst.A A250
     clear A250
     by_cases c26 : t175 = true
     ·subst c26
      rw [if_pos rfl] at H
      obtain ⟨t176, A270, H⟩ := Pst.bd H
      have A27 := Pst.A A270
      clear A270
      by_cases c28 : t176 = true
      ·subst c28
       rw [if_pos rfl] at H
       obtain ⟨t177, A290, H⟩ := Pst.bd H
       have A29 := Pst.A A290
       clear A290
       obtain rfl := Option.some.inj H
       obtain ⟨hcz30_0, hcz30_1, hcz30_2, hcz30_3, hcz30_4, hcz30_5, hcz30_6, hcz30_7, hcz30_8, hcz30_9, hcz30_10, hcz30_11, hcz30_12, hcz30_13, hcz30_14, hcz30_15⟩ := Pst.c16 BK169.out
       obtain ⟨hfz30_0, hfz30_1, hfz30_2, hfz30_3, hfz30_4, hfz30_5, hfz30_6, hfz30_7, hfz30_8, hfz30_9, hfz30_10, hfz30_11, hfz30_12, hfz30_13, hfz30_14, hfz30_15⟩ := Pst.f16 BK169.out
       go_wp2_with (first | (go_at_call 24; (with_reducible refine (impl_in.calls (l0_12.length : Int) 1 20 true _ A23.out).mono ?_); rintro e w' ⟨rfl, ⟨nd, rfl⟩⟩) | (go_at_call 24; (with_reducible refine (impl_in.calls a0_13 0 50 true _ A25.out).mono ?_); rintro e w' ⟨rfl, ⟨nd, rfl⟩⟩) | (go_at_call 24; (with_reducible refine (impl_in.calls a0_14 1 50 true _ A27.out).mono ?_); rintro e w' ⟨rfl, ⟨nd, rfl⟩⟩) | (go_at_call 24; (with_reducible refine (impl_in.calls a0_15 1 12 t177 _ A29.out).mono ?_); rintro e w' ⟨rfl, ⟨nd, rfl⟩⟩))
       go_ret
       exact ⟨Pst.e1, Pst.bes⟩
      replace c28 := Bool.eq_false_iff.mpr c28
      subst c28
      rw [if_neg Pst.ft] at H
      obtain rfl := Option.some.inj H
      obtain ⟨hcz31_0, hcz31_1, hcz31_2, hcz31_3, hcz31_4, hcz31_5, hcz31_6, hcz31_7, hcz31_8, hcz31_9, hcz31_10, hcz31_11, hcz31_12, hcz31_13, hcz31_14, hcz31_15⟩ := Pst.c16 BK169.out
      obtain ⟨hfz31_0, hfz31_1, hfz31_2, hfz31_3, hfz31_4, hfz31_5, hfz31_6, hfz31_7, hfz31_8, hfz31_9, hfz31_10, hfz31_11, hfz31_12, hfz31_13, hfz31_14, hfz31_15⟩ := Pst.f16 BK169.out
      go_wp2_with (first | (go_at_call 24; (with_reducible refine (impl_in.calls (l0_12.length : Int) 1 20 true _ A23.out).mono ?_); rintro e w' ⟨rfl, ⟨nd, rfl⟩⟩) | (go_at_call 24; (with_reducible refine (impl_in.calls a0_13 0 50 true _ A25.out).mono ?_); rintro e w' ⟨rfl, ⟨nd, rfl⟩⟩) | (go_at_call 24; (with_reducible refine (impl_in.calls a0_14 1 50 false _ A27.out).mono ?_); rintro e w' ⟨rfl, ⟨nd, rfl⟩⟩))
      go_ret
      exact ⟨Pst.e1, Pst.bes⟩
     replace c26 := Bool.eq_false_iff.mpr c26
     subst c26
     rw [if_neg Pst.ft] at H
     obtain rfl := Option.some.inj H
     obtain ⟨hcz32_0, hcz32_1, hcz32_2, hcz32_3, hcz32_4, hcz32_5, hcz32_6, hcz32_7, hcz32_8, hcz32_9, hcz32_10, hcz32_11, hcz32_12, hcz32_13, hcz32_14, hcz32_15⟩ := Pst.c16 BK169.out
     obtain ⟨hfz32_0, hfz32_1, hfz32_2, hfz32_3, hfz32_4, hfz32_5, hfz32_6, hfz32_7, hfz32_8, hfz32_9, hfz32_10, hfz32_11, hfz32_12, hfz32_13, hfz32_14, hfz32_15⟩ := Pst.f16 BK169.out
     go_wp2_with (first | (go_at_call 24; (with_reducible refine (impl_in.calls (l0_12.length : Int) 1 20 true _ A23.out).mono ?_); rintro e w' ⟨rfl, ⟨nd, rfl⟩⟩) | (go_at_call 24; (with_reducible refine (impl_in.calls a0_13 0 50 false _ A25.out).mono ?_); rintro e w' ⟨rfl, ⟨nd, rfl⟩⟩))
     go_ret
     exact ⟨Pst.e1, Pst.bes⟩
    replace c24 := Bool.eq_false_iff.mpr c24
    subst c24
    rw [if_neg Pst.ft] at H
    obtain rfl := Option.some.inj H
    obtain ⟨hcz33_0, hcz33_1, hcz33_2, hcz33_3, hcz33_4, hcz33_5, hcz33_6, hcz33_7, hcz33_8, hcz33_9, hcz33_10, hcz33_11, hcz33_12, hcz33_13, hcz33_14, hcz33_15⟩ := Pst.c16 BK169.out
    obtain ⟨hfz33_0, hfz33_1, hfz33_2, hfz33_3, hfz33_4, hfz33_5, hfz33_6, hfz33_7, hfz33_8, hfz33_9, hfz33_10, hfz33_11, hfz33_12, hfz33_13, hfz33_14, hfz33_15⟩ := Pst.f16 BK169.out
    go_wp2_with (first | (go_at_call 24; (with_reducible refine (impl_in.calls (l0_12.length : Int) 1 20 false _ A23.out).mono ?_); rintro e w' ⟨rfl, ⟨nd, rfl⟩⟩))
    go_ret
    exact ⟨Pst.e1, Pst.bes⟩
   replace c22 := Bool.eq_false_iff.mpr c22
   subst c22
   rw [if_neg Pst.ft] at H
   obtain rfl := Option.some.inj H
   go_wp2
   go_ret
   exact ⟨Pst.e1, Pst.bes⟩
theorem impl_WorldOk.l0.st {x7 : List Int} {x8 : Int} {x9 : Int} {x170000 : Int} {x170001 : Int} {x170002 : Int} {x170003 : List (S82)} {x170004 : List (S102)} {x170005 : Int} {x170006 : Int} {x170007 : List (S102)} {x170008 : Int} {x170009 : Int} {x170010 : Int} {x170011 : Int} {x170012 : List Int} {x170013 : Int} {x170014 : Int} {x170015 : Int} {r : (Bool)} (H : Ev (fun k => if x9 < x8 then (if 0 ≤ x9 then (if x9 < (x7.length : Int) then ((impl_in.f (rd x7 x9) 0 100000).bind fun t171 => (if t171 = true then (impl_WorldOk.l0 k x7 x8 (wrap64 (x9 + 1)) x170000 x170001 x170002 x170003 x170004 x170005 x170006 x170007 x170008 x170009 x170010 x170011 x170012 x170013 x170014 x170015) else (some false))) else (none)) else (none)) else ((impl_SetupOk.f k x170000 x170001 x170002 x170003 x170004 x170005 x170006 x170007 x170008 x170009 x170010 x170011).bind fun t172 => (if t172 = true then (if (x170003.length : Int) = 1 then (if 0 < (x170003.length : Int) then (impl_WorldOk.j1 k (((rd_T82 x170003 0).f0).toList == ([99, 112, 117] : List UInt8)) x170000 x170001 x170002 x170003 x170004 x170005 x170006 x170007 x170008 x170009 x170010 x170011 x170012 x170013 x170014 x170015) else (none)) else (impl_WorldOk.j1 k false x170000 x170001 x170002 x170003 x170004 x170005 x170006 x170007 x170008 x170009 x170010 x170011 x170012 x170013 x170014 x170015)) else (impl_WorldOk.j1 k false x170000 x170001 x170002 x170003 x170004 x170005 x170006 x170007 x170008 x170009 x170010 x170011 x170012 x170013 x170014 x170015)))) r) : Ev (fun k => impl_WorldOk.l0 k x7 x8 x9 x170000 x170001 x170002 x170003 x170004 x170005 x170006 x170007 x170008 x170009 x170010 x170011 x170012 x170013 x170014 x170015) r := Ev.step (fun k => impl_WorldOk.l0.eq_2 x7 x8 x9 x170000 x170001 x170002 x170003 x170004 x170005 x170006 x170007 x170008 x170009 x170010 x170011 x170012 x170013 x170014 x170015 k) H
theorem impl_WorldOk.j1.st {x5 : Bool} {x170000 : Int} {x170001 : Int} {x170002 : Int} {x170003 : List (S82)} {x170004 : List (S102)} {x170005 : Int} {x170006 : Int} {x170007 : List (S102)} {x170008 : Int} {x170009 : Int} {x170010 : Int} {x170011 : Int} {x170012 : List Int} {x170013 : Int} {x170014 : Int} {x170015 : Int} {r : (Bool)} (H : Ev (fun k => if x5 = true then ((impl_in.f (x170012.length : Int) 1 20).bind fun t174 => (if t174 = true then ((impl_in.f x170013 0 50).bind fun t175 => (if t175 = true then ((impl_in.f x170014 1 50).bind fun t176 => (if t176 = true then ((impl_in.f x170015 1 12).bind fun t177 => (some t177)) else (some false))) else (some false))) else (some false))) else (some false)) r) : Ev (fun k => impl_WorldOk.j1 k x5 x170000 x170001 x170002 x170003 x170004 x170005 x170006 x170007 x170008 x170009 x170010 x170011 x170012 x170013 x170014 x170015) r := Ev.step (fun k => impl_WorldOk.j1.eq_2 x5 x170000 x170001 x170002 x170003 x170004 x170005 x170006 x170007 x170008 x170009 x170010 x170011 x170012 x170013 x170014 x170015 k) H

/-! ### impl_words: function 59 -/
/-- Texts with a space between. -/
def spaced (l : List ByteArray) : List UInt8 := Lib.join (l.map (·.data.toList)) [32]
def impl_words.f (l0 : List ByteArray) : Option ByteArray := if 1 ≤ l0.length ∧ l0.length ≤ 1000 ∧ (spaced l0).length ≤ 1000000 then some ⟨(spaced l0).toArray⟩ else none
theorem impl_words.calls (P0_ : Nat → Prop) (u9000_ : Value) (l0 : List ByteArray) (r : ByteArray) (w0 w : World) (hB : Below w0.heap.size w0 w) (ho0 : Kd.R Kd.string 9 w w0.heap.size P0_ u9000_ l0) (h : impl_words.f l0 = some r) :
    Calls Tryz.prog 59 #[u9000_] w fun e w' => e = .returned (.string r) ∧ Below w0.heap.size w0 w' ∧ Kept w w' (fun k_ => P0_ k_) := by
 unfold impl_words.f at h
 by_cases hb : 1 ≤ l0.length ∧ l0.length ≤ 1000 ∧ (spaced l0).length ≤ 1000000
 ·rw [if_pos hb] at h
  obtain rfl := Option.some.inj h
  obtain ⟨hok, inner, hown, hrep⟩ := ho0
  obtain ⟨hlen, hv⟩ := hown
  rcases hv with ⟨rfl, h0⟩ | ⟨g, cap, cur, rfl, hbase, hg, hnc, hcm, hcs, htake⟩
  ·omega
  have hcells : ∀ (j : Nat) x, l0[j]? = some x → w.cell? ⟨g, 0 + j, none⟩ = some (.string x) := by
   intro j x hj
   have h1 := hrep.2 j x hj
   have hjl : j < l0.length := (List.getElem?_eq_some_iff.1 hj).1
   have h2 : (inner.drop (j * 1)).take 1 = [.string x] := h1
   have h3 : ((inner.drop (j * 1)).take 1)[0]? = some (.string x) := by rw [h2]; rfl
   rw [List.getElem?_take, if_pos (by omega), List.getElem?_drop, ← htake, List.getElem?_take, if_pos (by show j * 1 + 0 < l0.length * 1; omega)] at h3
   rw [blk_cell hg, ← Array.getElem?_toList, Nat.zero_add]
   rw [Nat.mul_one, Nat.add_zero] at h3
   exact h3
  have hcall := Tryz.strings_Join g 0 cap l0 ⟨#[32]⟩ w hcells (blk_lt hg) (by omega) hnc (by have := hb.2.2; unfold spaced at this; show (Lib.join (l0.map (·.data.toList)) [32]).length ≤ _; omega)
  have HB := Pst.A hB
  generalize hn : l0.length = n at hcall
  have hres : (Lib.join (l0.map (·.data.toList)) (⟨#[32]⟩ : ByteArray).data.toList) = spaced l0 := rfl
  rw [hres] at hcall
  generalize spaced l0 = q at hcall
  clear hB h hb hok hrep hlen hg hcs htake hcells hnc hcm
  go_enter Tryz.func59, Tryz.ntmps59
  go_wp2_with (go_at_call 89; refine hcall.mono ?_; rintro e w1 ⟨rfl, hb1⟩)
  go_ret
  exact ⟨rfl, below_step HB.out hb1, Kept.of_below hb1 _⟩
 ·rw [if_neg hb] at h
  cases h

/-! ### impl_number: function 60 -/
def impl_number.f (a0 : Int) : Option (ByteArray) := (strconv_Itoa.f a0).bind fun t178 => (some t178)
theorem impl_number.calls (a0 : Int) (r : ByteArray) (w : World) (h : impl_number.f a0 = some r) (tab_ : Tab w := by exact HT.out.on Pst.bel) :
    Calls Tryz.prog 60 #[.int .i64 a0] w fun e w' => e = .returned (.string r) ∧ Below w.heap.size w w' := by
 have HT := Pst.A tab_
 clear tab_
 have HB := Pst.A (Below.refl w.heap.size w)
 have H : ((strconv_Itoa.f a0).bind fun t178 => (some t178)) = some r := h
 clear h
 obtain ⟨t178, A20, H⟩ := Pst.bd H
 have A2 := Pst.A A20
 clear A20
 obtain rfl := Option.some.inj H
 go_enter Tryz.func60, Tryz.ntmps60
 go_wp2_with (first | ((with_reducible refine gate_callee (f := 82) rfl ?_); refine goesL_ (some 4) rfl rfl Tryz.func82 (by kernel_rfl) rfl #[.int .i64 a0] rfl Pst.ga ?_; (with_reducible refine (strconv_Itoa.calls a0 t178 _ A2.out).mono ?_); rintro e w3 ⟨rfl, hb⟩; refine ⟨_, rfl, ?_⟩; replace HB := Pst.A (below_step Pst.bel hb); (try clear hb); (try clear hb2); (try clear hk); (try clear hi)))
 go_ret
 exact ⟨Pst.e1, Pst.bel⟩

/-! ### impl_WorldText: function 30 -/
abbrev q0_30 : Array Bool := #[false, false, false, false, false, false, false, false, false, false, false, false, false]
abbrev q1_30 : Array Bool := #[true, false, false, false, false, false, false, false, false, false, false, false, false]
abbrev q2_30 : Array Bool := #[true, false, false, true, false, false, false, false, false, false, false, false, false]
abbrev q3_30 : Array Bool := #[true, false, false, true, false, false, true, false, false, false, false, false, false]
abbrev q4_30 : Array Bool := #[true, true, false, true, false, false, true, false, false, false, false, false, false]
abbrev q5_30 : Array Bool := #[true, true, false, true, true, false, true, false, false, false, false, false, false]
abbrev q6_30 : Array Bool := #[true, true, false, true, true, false, true, true, false, false, false, false, false]
abbrev q7_30 : Array Bool := #[true, true, true, true, true, false, true, true, false, false, false, false, false]
abbrev q8_30 : Array Bool := #[true, true, true, true, true, true, true, true, false, false, false, false, false]
abbrev q9_30 : Array Bool := #[true, true, true, true, true, true, true, true, true, false, false, false, false]
abbrev q10_30 : Array Bool := #[true, true, true, true, true, true, true, true, true, true, false, false, false]
abbrev q11_30 : Array Bool := #[true, true, true, true, true, true, true, true, true, true, true, false, false]
abbrev q12_30 : Array Bool := #[true, true, true, true, true, true, true, true, true, true, true, true, false]
abbrev q13_30 : Array Bool := #[true, true, true, true, true, true, true, true, true, true, true, true, true]
def impl_WorldText.l0 : Nat → ByteArray → List Int → Int → Int → Option (ByteArray)
 | 0, _, _, _, _ => none
 | k + 1, x3, x22, x23, x24 => if x24 < x23 then (if 0 ≤ x24 then (if x24 < (x22.length : Int) then ((impl_MilliText.f k (rd x22 x24)).bind fun t189 => (if 1 + t189.size ≤ 9223372036854775807 then (if x3.size + ((⟨#[32]⟩ : ByteArray) ++ t189).size ≤ 9223372036854775807 then (impl_WorldText.l0 k (x3 ++ ((⟨#[32]⟩ : ByteArray) ++ t189)) x22 x23 (wrap64 (x24 + 1))) else (none)) else (none))) else (none)) else (none)) else (some x3)
def impl_WorldText.f (k : Nat) (a0_0 : Int) (a0_1 : Int) (a0_2 : Int) (l0_3 : List (S82)) (l0_4 : List (S102)) (a0_5 : Int) (a0_6 : Int) (l0_7 : List (S102)) (a0_8 : Int) (a0_9 : Int) (a0_10 : Int) (a0_11 : Int) (l0_12 : List Int) (a0_13 : Int) (a0_14 : Int) (a0_15 : Int) : Option (ByteArray) := (impl_WorldOk.f k a0_0 a0_1 a0_2 l0_3 l0_4 a0_5 a0_6 l0_7 a0_8 a0_9 a0_10 a0_11 l0_12 a0_13 a0_14 a0_15).bind fun t180 => (if t180 = true then ((impl_number.f a0_15).bind fun t181 => ((impl_number.f a0_13).bind fun t182 => ((impl_number.f a0_14).bind fun t183 => ((impl_words.f (([t181, (⟨#[119, 97, 114, 109]⟩ : ByteArray), t182, (⟨#[101, 97, 99, 104]⟩ : ByteArray), t183] : List ByteArray))).bind fun t187 => (if t187.size + 1 ≤ 9223372036854775807 then (impl_WorldText.l0 k (t187 ++ (⟨#[58]⟩ : ByteArray)) l0_12 (l0_12.length : Int) 0) else (none)))))) else (some (⟨#[]⟩ : ByteArray)))
theorem impl_WorldText.mono_l : ∀ k, (∀ y0 y1 y2 y3, LeO (impl_WorldText.l0 k y0 y1 y2 y3) (impl_WorldText.l0 (k + 1) y0 y1 y2 y3))
 | 0 => fun _ _ _ _ r h => by simp [impl_WorldText.l0] at h
 | k + 1 => by
  have ih0 := impl_WorldText.mono_l k
  intro y0 y1 y2 y3
  unfold impl_WorldText.l0
  have m0 := @impl_MilliText.mono
  have m1 := @impl_WorldOk.mono
  exact Pst.mo
theorem impl_WorldText.mono : ∀ a0 a1 a2 a3 a4 a5 a6 a7 a8 a9 a10 a11 a12 a13 a14 a15 k, LeO (impl_WorldText.f k a0 a1 a2 a3 a4 a5 a6 a7 a8 a9 a10 a11 a12 a13 a14 a15) (impl_WorldText.f (k + 1) a0 a1 a2 a3 a4 a5 a6 a7 a8 a9 a10 a11 a12 a13 a14 a15) := by
 intro a0 a1 a2 a3 a4 a5 a6 a7 a8 a9 a10 a11 a12 a13 a14 a15 k
 have ih0 := impl_WorldText.mono_l k
 unfold impl_WorldText.f
 have m0 := @impl_MilliText.mono
 have m1 := @impl_WorldOk.mono
 exact Pst.mo
def impl_WorldText.T3 : Bool × List (List Nat × List Nat) := (true, [([], []), ([0], [0]), ([1], [1]), ([], []), ([3], [3]), ([4, 2], [4]), ([], []), ([6], [6]), ([7, 5], [7]), ([2, 5, 8], [2, 5, 8]), ([9, 8], [9]), ([10], [10]), ([11, 10, 0, 1, 2, 3, 4, 5, 6, 7, 8, 9, 10, 11], [11])])
def impl_WorldText.B3 : List Nat := [0, 1, 3, 0, 8, 31, 0, 64, 255, 511, 1023, 2047, 4095]
theorem impl_WorldText.tab3 : rtab .any (opsOf Tryz.f30 3) = impl_WorldText.T3 := by kernel_rfl
theorem impl_WorldText.bits3 : waitsOk impl_WorldText.T3.2 impl_WorldText.B3 = true := by kernel_rfl
theorem impl_WorldText.calls (k : Nat) (a0_0 : Int) (a0_1 : Int) (a0_2 : Int) (A0_3 : Option Addr) (c0_3 : Nat) (l0_3 : List (S82)) (A0_4 : Option Addr) (c0_4 : Nat) (l0_4 : List (S102)) (a0_5 : Int) (a0_6 : Int) (A0_7 : Option Addr) (c0_7 : Nat) (l0_7 : List (S102)) (a0_8 : Int) (a0_9 : Int) (a0_10 : Int) (a0_11 : Int) (A0_12 : Option Addr) (c0_12 : Nat) (l0_12 : List Int) (a0_13 : Int) (a0_14 : Int) (a0_15 : Int) (r : ByteArray) (w : World) (hr0_3 : Kd.C k82 w A0_3 l0_3.length l0_3) (hc0_3 : l0_3.length ≤ c0_3) (hr0_4 : Kd.C k102 w A0_4 l0_4.length l0_4) (hc0_4 : l0_4.length ≤ c0_4) (hr0_7 : Kd.C k102 w A0_7 l0_7.length l0_7) (hc0_7 : l0_7.length ≤ c0_7) (hr0_12 : Kd.C (Kd.int .i64) w A0_12 l0_12.length l0_12) (hc0_12 : l0_12.length ≤ c0_12) (h : impl_WorldText.f k a0_0 a0_1 a0_2 l0_3 l0_4 a0_5 a0_6 l0_7 a0_8 a0_9 a0_10 a0_11 l0_12 a0_13 a0_14 a0_15 = some r) (tab_ : Tab w := by exact HT.out.on Pst.bel) :
 Calls Tryz.prog 30 #[.agg #[.int .i64 a0_0, .int .i64 a0_1, .int .i64 a0_2, .slice A0_3 l0_3.length c0_3, .slice A0_4 l0_4.length c0_4, .int .i64 a0_5, .int .i64 a0_6, .slice A0_7 l0_7.length c0_7, .int .i64 a0_8, .int .i64 a0_9, .int .i64 a0_10, .int .i64 a0_11, .slice A0_12 l0_12.length c0_12, .int .i64 a0_13, .int .i64 a0_14, .int .i64 a0_15]] w fun e w' => e = .returned (.string r) ∧ Below w.heap.size w w' := by
 have HT := Pst.A tab_
 clear tab_
 have hu44 := Tryz.underlying44
 have HR0_3 := Pst.A hr0_3
 have HC0_3 := Pst.A hc0_3
 clear hr0_3 hc0_3
 have HR0_4 := Pst.A hr0_4
 have HC0_4 := Pst.A hc0_4
 clear hr0_4 hc0_4
 have HR0_7 := Pst.A hr0_7
 have HC0_7 := Pst.A hc0_7
 clear hr0_7 hc0_7
 have HR0_12 := Pst.A hr0_12
 have HC0_12 := Pst.A hc0_12
 clear hr0_12 hc0_12
 have HB := Pst.A (Below.refl w.heap.size w)
 have H : ((impl_WorldOk.f k a0_0 a0_1 a0_2 l0_3 l0_4 a0_5 a0_6 l0_7 a0_8 a0_9 a0_10 a0_11 l0_12 a0_13 a0_14 a0_15).bind fun t180 => (if t180 = true then ((impl_number.f a0_15).bind fun t181 => ((impl_number.f a0_13).bind fun t182 => ((impl_number.f a0_14).bind fun t183 => ((impl_words.f (([t181, (⟨#[119, 97, 114, 109]⟩ : ByteArray), t182, (⟨#[101, 97, 99, 104]⟩ : ByteArray), t183] : List ByteArray))).bind fun t187 => (if t187.size + 1 ≤ 9223372036854775807 then (impl_WorldText.l0 k (t187 ++ (⟨#[58]⟩ : ByteArray)) l0_12 (l0_12.length : Int) 0) else (none)))))) else (some (⟨#[]⟩ : ByteArray)))) = some r := h
 clear h
 obtain ⟨t180, A20, H⟩ := Pst.bd H
 have A2 := Pst.A A20
 clear A20
 by_cases c3 : t180 = true
 ·subst c3
  rw [if_pos rfl] at H
  obtain ⟨t181, A40, H⟩ := Pst.bd H
  have A4 := Pst.A A40
  clear A40
  obtain ⟨t182, A50, H⟩ := Pst.bd H
  have A5 := Pst.A A50
  clear A50
  obtain ⟨t183, A60, H⟩ := Pst.bd H
  have A6 := Pst.A A60
  clear A60
  obtain ⟨y184, hy184⟩ : ∃ y_ : List ByteArray, y_ = (([t181, (⟨#[119, 97, 114, 109]⟩ : ByteArray), t182, (⟨#[101, 97, 99, 104]⟩ : ByteArray), t183] : List ByteArray)) := ⟨_, rfl⟩
  replace H : ((impl_words.f y184).bind fun t187 => (if t187.size + 1 ≤ 9223372036854775807 then (impl_WorldText.l0 k (t187 ++ (⟨#[58]⟩ : ByteArray)) l0_12 (l0_12.length : Int) 0) else (none))) = some r := by first | (rw [hy184]; with_reducible exact H) | (have H2_ := (Option.bind_some _ _).symm.trans H; rw [hy184]; with_reducible exact H2_) | (have H2_ := (Option.bind_some _ _).symm.trans H; with_reducible exact H2_) | with_reducible exact H | (rw [hy184]; exact H) | exact H
  have Ny184 := Pst.A hy184
  clear hy184
  obtain ⟨t187, A70, H⟩ := Pst.bd H
  have A7 := Pst.A A70
  clear A70
  by_cases c8 : t187.size + 1 ≤ 9223372036854775807
  ·rw [if_pos c8] at H
   have c8b0 := eq_true c8
   have c8b1 : decide (t187.size + 1 ≤ 9223372036854775807) = true := decide_eq_true c8
   try have c8b2 : (9223372036854775807 < t187.size + 1) = False := eq_false (Nat.not_lt.2 c8)
   have H' := Pst.A H
   clear H
   go_enter Tryz.func30, Tryz.ntmps30
   try go_wp2_with (first | ((with_reducible refine gate_dst (N := 1) rfl ?_); refine Pst.bx 1 #[.int .i64 a0_0, .int .i64 a0_1, .int .i64 a0_2, .slice A0_3 l0_3.length c0_3, .slice A0_4 l0_4.length c0_4, .int .i64 a0_5, .int .i64 a0_6, .slice A0_7 l0_7.length c0_7, .int .i64 a0_8, .int .i64 a0_9, .int .i64 a0_10, .int .i64 a0_11, .slice A0_12 l0_12.length c0_12, .int .i64 a0_13, .int .i64 a0_14, .int .i64 a0_15] 44 ?_; intro gb179 hg w9 hbox hb; have BK179 := Pst.A hbox; have GW179 := Pst.A (Pst.gs hg : w.heap.size ≤ gb179); have GE179 := Pst.A (Pst.gs hg : w.heap.size ≤ gb179); replace HB := Pst.A (below_step Pst.bel hb); clear hb hbox hg; obtain ⟨hcz10_0, hcz10_1, hcz10_2, hcz10_3, hcz10_4, hcz10_5, hcz10_6, hcz10_7, hcz10_8, hcz10_9, hcz10_10, hcz10_11, hcz10_12, hcz10_13, hcz10_14, hcz10_15⟩ := Pst.c16 BK179.out; obtain ⟨hfz10_0, hfz10_1, hfz10_2, hfz10_3, hfz10_4, hfz10_5, hfz10_6, hfz10_7, hfz10_8, hfz10_9, hfz10_10, hfz10_11, hfz10_12, hfz10_13, hfz10_14, hfz10_15⟩ := Pst.f16 BK179.out) | ((with_reducible refine gate_callee (f := 29) rfl ?_); refine goesL_ (some 7) rfl rfl Tryz.func29 (by kernel_rfl) rfl #[.agg #[.int .i64 a0_0, .int .i64 a0_1, .int .i64 a0_2, .slice A0_3 l0_3.length c0_3, .slice A0_4 l0_4.length c0_4, .int .i64 a0_5, .int .i64 a0_6, .slice A0_7 l0_7.length c0_7, .int .i64 a0_8, .int .i64 a0_9, .int .i64 a0_10, .int .i64 a0_11, .slice A0_12 l0_12.length c0_12, .int .i64 a0_13, .int .i64 a0_14, .int .i64 a0_15]] rfl Pst.ga ?_; (with_reducible refine (impl_WorldOk.calls k a0_0 a0_1 a0_2 _ _ l0_3 _ _ l0_4 a0_5 a0_6 _ _ l0_7 a0_8 a0_9 a0_10 a0_11 _ _ l0_12 a0_13 a0_14 a0_15 true _ ?side1 ?side2 ?side3 ?side4 ?side5 ?side6 ?side7 ?side8 A2.out).mono ?_); (case side1 => exact Pst.qc (Kd.C_below HR0_3.out HB.out)); (case side2 => exact HC0_3.out); (case side3 => exact Pst.qc (Kd.C_below HR0_4.out HB.out)); (case side4 => exact HC0_4.out); (case side5 => exact Pst.qc (Kd.C_below HR0_7.out HB.out)); (case side6 => exact HC0_7.out); (case side7 => exact Pst.qc (Kd.C_below HR0_12.out HB.out)); (case side8 => exact HC0_12.out); rintro e w11 ⟨rfl, hb⟩; refine ⟨_, rfl, ?_⟩; replace BK179 := Pst.A (Pst.kb BK179.out hb); replace HB := Pst.A (below_step Pst.bes hb); (try clear hb); (try clear hb2); (try clear hk); (try clear hi)))
   replace BK179 := Pst.A (blk_drew BK179.out)
   replace HB := Pst.A (below_drew1 HB.out)
   refine start_ (n := 13) (S := fun w' => w'.cell? ⟨gb179, 0, none⟩ = some (.int .i64 a0_0) ∧ w'.cell? ⟨gb179, 1, none⟩ = some (.int .i64 a0_1) ∧ w'.cell? ⟨gb179, 2, none⟩ = some (.int .i64 a0_2) ∧ w'.cell? ⟨gb179, 3, none⟩ = some (.slice A0_3 l0_3.length c0_3) ∧ w'.cell? ⟨gb179, 4, none⟩ = some (.slice A0_4 l0_4.length c0_4) ∧ w'.cell? ⟨gb179, 5, none⟩ = some (.int .i64 a0_5) ∧ w'.cell? ⟨gb179, 6, none⟩ = some (.int .i64 a0_6) ∧ w'.cell? ⟨gb179, 7, none⟩ = some (.slice A0_7 l0_7.length c0_7) ∧ w'.cell? ⟨gb179, 8, none⟩ = some (.int .i64 a0_8) ∧ w'.cell? ⟨gb179, 9, none⟩ = some (.int .i64 a0_9) ∧ w'.cell? ⟨gb179, 10, none⟩ = some (.int .i64 a0_10) ∧ w'.cell? ⟨gb179, 11, none⟩ = some (.int .i64 a0_11) ∧ w'.cell? ⟨gb179, 12, none⟩ = some (.slice A0_12 l0_12.length c0_12) ∧ w'.cell? ⟨gb179, 13, none⟩ = some (.int .i64 a0_13) ∧ w'.cell? ⟨gb179, 14, none⟩ = some (.int .i64 a0_14) ∧ w'.cell? ⟨gb179, 15, none⟩ = some (.int .i64 a0_15)) (ds := []) q0_30 (by kernel_rfl) rfl rfl ⟨(blk_cell BK179.out 0).trans rfl, (blk_cell BK179.out 1).trans rfl, (blk_cell BK179.out 2).trans rfl, (blk_cell BK179.out 3).trans rfl, (blk_cell BK179.out 4).trans rfl, (blk_cell BK179.out 5).trans rfl, (blk_cell BK179.out 6).trans rfl, (blk_cell BK179.out 7).trans rfl, (blk_cell BK179.out 8).trans rfl, (blk_cell BK179.out 9).trans rfl, (blk_cell BK179.out 10).trans rfl, (blk_cell BK179.out 11).trans rfl, (blk_cell BK179.out 12).trans rfl, (blk_cell BK179.out 13).trans rfl, (blk_cell BK179.out 14).trans rfl, (blk_cell BK179.out 15).trans rfl⟩ (fun hHeld => ?_); refine with_tabW impl_WorldText.tab3 impl_WorldText.bits3 (fun HT_ HW_ => ?_)
   generalize w11.drew = w12 at BK179 HB hHeld ⊢
   refine pure_ (i := 0) (N := some 9) (v := ?_) (a' := ?_) q1_30 rfl rfl (any_of HT_.out (by kernel_rfl)) (fun _ _ _ h => h) (Or.inl ⟨by rfl, ?_⟩) ?_ ?_
   rotate_left
   ·intro w'
    go_simp
    with_reducible rfl
   rotate_left
   ·simp only [Pst.all]
    rfl
   refine pure_ (i := 3) (N := some 12) (v := ?_) (a' := ?_) q2_30 rfl rfl (any_of HT_.out (by kernel_rfl)) (fun _ _ _ h => h) (Or.inl ⟨by rfl, ?_⟩) ?_ ?_
   rotate_left
   ·intro w'
    go_simp
    with_reducible rfl
   rotate_left
   ·simp only [Pst.all]
    rfl
   refine pure_ (i := 6) (N := some 15) (v := ?_) (a' := ?_) q3_30 rfl rfl (any_of HT_.out (by kernel_rfl)) (fun _ _ _ h => h) (Or.inl ⟨by rfl, ?_⟩) ?_ ?_
   rotate_left
   ·intro w'
    go_simp
    with_reducible rfl
   rotate_left
   ·simp only [Pst.all]
    rfl
   refine take_ (i := 1) (N := some 10) (v := ?_) (a' := ?_) q4_30 rfl rfl (take_ofW HT_.out HW_.out (by kernel_rfl)) (fun _ _ _ h => h) (Or.inl ⟨by rfl, ?_⟩) hHeld ?_ ?_
   rotate_left
   ·rintro w' ⟨s0, s1, s2, s3, s4, s5, s6, s7, s8, s9, s10, s11, s12, s13, s14, s15⟩
    go_simp
    with_reducible rfl
   rotate_left
   ·simp only [Pst.all]
    rfl
   refine take_ (i := 4) (N := some 13) (v := ?_) (a' := ?_) q5_30 rfl rfl (take_ofW HT_.out HW_.out (by kernel_rfl)) (fun _ _ _ h => h) (Or.inl ⟨by rfl, ?_⟩) hHeld ?_ ?_
   rotate_left
   ·rintro w' ⟨s0, s1, s2, s3, s4, s5, s6, s7, s8, s9, s10, s11, s12, s13, s14, s15⟩
    go_simp
    with_reducible rfl
   rotate_left
   ·simp only [Pst.all]
    rfl
   refine take_ (i := 7) (N := some 16) (v := ?_) (a' := ?_) q6_30 rfl rfl (take_ofW HT_.out HW_.out (by kernel_rfl)) (fun _ _ _ h => h) (Or.inl ⟨by rfl, ?_⟩) hHeld ?_ ?_
   rotate_left
   ·rintro w' ⟨s0, s1, s2, s3, s4, s5, s6, s7, s8, s9, s10, s11, s12, s13, s14, s15⟩
    go_simp
    with_reducible rfl
   rotate_left
   ·simp only [Pst.all]
    rfl
   refine one_ (i := 2) (N := some 11) q7_30 rfl rfl (one_of HT_.out (by kernel_rfl)) (by decide) (fun K hK => ?_)
   refine goes_ Tryz.func60 (by kernel_rfl) rfl #[.int .i64 a0_15] (by rfl) rfl rfl Pst.ga ?_
   with_reducible refine (impl_number.calls a0_15 t181 _ A4.out).mono ?_
   rintro e w13 ⟨rfl, hb⟩
   refine ⟨_, rfl, ?_⟩
   replace BK179 := Pst.A (Pst.kb BK179.out hb)
   replace HB := Pst.A (below_step Pst.bes hb)
   (try clear hb)
   (try clear hb2)
   (try clear hk)
   (try clear hi)
   refine hK.out _ _ ⟨(blk_cell BK179.out 0).trans rfl, (blk_cell BK179.out 1).trans rfl, (blk_cell BK179.out 2).trans rfl, (blk_cell BK179.out 3).trans rfl, (blk_cell BK179.out 4).trans rfl, (blk_cell BK179.out 5).trans rfl, (blk_cell BK179.out 6).trans rfl, (blk_cell BK179.out 7).trans rfl, (blk_cell BK179.out 8).trans rfl, (blk_cell BK179.out 9).trans rfl, (blk_cell BK179.out 10).trans rfl, (blk_cell BK179.out 11).trans rfl, (blk_cell BK179.out 12).trans rfl, (blk_cell BK179.out 13).trans rfl, (blk_cell BK179.out 14).trans rfl, (blk_cell BK179.out 15).trans rfl⟩ (fun hHeld => ?_)
   clear hK K
   refine norm_ (a' := ?_) ?_ ?_
   rotate_left
   ·show Act.put _ (some 11) _ = _
    simp only [Pst.all]
    rfl
   refine one_ (i := 5) (N := some 14) q8_30 rfl rfl (one_of HT_.out (by kernel_rfl)) (by decide) (fun K hK => ?_)
   refine goes_ Tryz.func60 (by kernel_rfl) rfl #[.int .i64 a0_13] (by rfl) rfl rfl Pst.ga ?_
   with_reducible refine (impl_number.calls a0_13 t182 _ A5.out).mono ?_
   rintro e w14 ⟨rfl, hb⟩
   refine ⟨_, rfl, ?_⟩
   replace BK179 := Pst.A (Pst.kb BK179.out hb)
   replace HB := Pst.A (below_step Pst.bes hb)
   (try clear hb)
   (try clear hb2)
   (try clear hk)
   (try clear hi)
   refine hK.out _ _ ⟨(blk_cell BK179.out 0).trans rfl, (blk_cell BK179.out 1).trans rfl, (blk_cell BK179.out 2).trans rfl, (blk_cell BK179.out 3).trans rfl, (blk_cell BK179.out 4).trans rfl, (blk_cell BK179.out 5).trans rfl, (blk_cell BK179.out 6).trans rfl, (blk_cell BK179.out 7).trans rfl, (blk_cell BK179.out 8).trans rfl, (blk_cell BK179.out 9).trans rfl, (blk_cell BK179.out 10).trans rfl, (blk_cell BK179.out 11).trans rfl, (blk_cell BK179.out 12).trans rfl, (blk_cell BK179.out 13).trans rfl, (blk_cell BK179.out 14).trans rfl, (blk_cell BK179.out 15).trans rfl⟩ (fun hHeld => ?_)
   clear hK K
   refine norm_ (a' := ?_) ?_ ?_
   rotate_left
   ·show Act.put _ (some 14) _ = _
    simp only [Pst.all]
    rfl
   refine one_ (i := 8) (N := some 17) q9_30 rfl rfl (one_of HT_.out (by kernel_rfl)) (by decide) (fun K hK => ?_)
   refine goes_ Tryz.func60 (by kernel_rfl) rfl #[.int .i64 a0_14] (by rfl) rfl rfl Pst.ga ?_
   with_reducible refine (impl_number.calls a0_14 t183 _ A6.out).mono ?_
   rintro e w15 ⟨rfl, hb⟩
   refine ⟨_, rfl, ?_⟩
   replace BK179 := Pst.A (Pst.kb BK179.out hb)
   replace HB := Pst.A (below_step Pst.bes hb)
   (try clear hb)
   (try clear hb2)
   (try clear hk)
   (try clear hi)
   refine hK.out _ _ ⟨(blk_cell BK179.out 0).trans rfl, (blk_cell BK179.out 1).trans rfl, (blk_cell BK179.out 2).trans rfl, (blk_cell BK179.out 3).trans rfl, (blk_cell BK179.out 4).trans rfl, (blk_cell BK179.out 5).trans rfl, (blk_cell BK179.out 6).trans rfl, (blk_cell BK179.out 7).trans rfl, (blk_cell BK179.out 8).trans rfl, (blk_cell BK179.out 9).trans rfl, (blk_cell BK179.out 10).trans rfl, (blk_cell BK179.out 11).trans rfl, (blk_cell BK179.out 12).trans rfl, (blk_cell BK179.out 13).trans rfl, (blk_cell BK179.out 14).trans rfl, (blk_cell BK179.out 15).trans rfl⟩ (fun hHeld => ?_)
   clear hK K
   refine norm_ (a' := ?_) ?_ ?_
   rotate_left
   ·show Act.put _ (some 17) _ = _
    simp only [Pst.all]
    rfl
   refine one_ (i := 9) (N := some 18) q10_30 rfl rfl (one_of HT_.out (by kernel_rfl)) (by decide) (fun K hK => ?_)
   refine Kd.R_lit_step Kd.string _ 9 ?hg (N := 18) ?hd (xs := ([t181, (⟨#[119, 97, 114, 109]⟩ : ByteArray), t182, (⟨#[101, 97, 99, 104]⟩ : ByteArray), t183] : List ByteArray)) (inner := [.string t181, .string (⟨#[119, 97, 114, 109]⟩ : ByteArray), .string t182, .string (⟨#[101, 97, 99, 104]⟩ : ByteArray), .string t183]) (ok := fun _ => True) (okp := fun _ => True) ?hr ?hp (fun _ hk => hk) trivial (Below.refl _ _) (Nat.le_refl _) (by simp) ?_; (case hd => rfl); (case hg => rfl); (case hr => exact Pst.gr); (case hp => exact (Reps.one (show Kd.M Kd.string _ _ _ t181 [.string t181] from rfl) (Reps.one (show Kd.M Kd.string _ _ _ (⟨#[119, 97, 114, 109]⟩ : ByteArray) [.string (⟨#[119, 97, 114, 109]⟩ : ByteArray)] from rfl) (Reps.one (show Kd.M Kd.string _ _ _ t182 [.string t182] from rfl) (Reps.one (show Kd.M Kd.string _ _ _ (⟨#[101, 97, 99, 104]⟩ : ByteArray) [.string (⟨#[101, 97, 99, 104]⟩ : ByteArray)] from rfl) (Reps.one (show Kd.M Kd.string _ _ _ t183 [.string t183] from rfl) (Reps.none _ _)))))))
   intro v185 w16 ho17 hb hg_ hnew_
   clear hg_ hnew_
   (first | rw [← Ny184.out] at ho17 | (simp only [Int.reduceToNat] at ho17; rw [← Ny184.out] at ho17))
   have HO186 := Pst.A (Kd.R_lower ho17 (below_size Pst.bes))
   replace BK179 := Pst.A (Pst.kb BK179.out hb)
   replace HB := Pst.A (below_step Pst.bes hb)
   clear hb ho17
   obtain ⟨Ao18, co18, eo18⟩ := Kd.R_slice HO186.out
   (first | subst eo18 | (injection eo18 with f1_ f2_ f3_; have f4_ := f1_.symm; have f5_ := f3_.symm; clear f1_ f2_ f3_; subst f4_; subst f5_))
   refine hK.out _ _ ⟨(blk_cell BK179.out 0).trans rfl, (blk_cell BK179.out 1).trans rfl, (blk_cell BK179.out 2).trans rfl, (blk_cell BK179.out 3).trans rfl, (blk_cell BK179.out 4).trans rfl, (blk_cell BK179.out 5).trans rfl, (blk_cell BK179.out 6).trans rfl, (blk_cell BK179.out 7).trans rfl, (blk_cell BK179.out 8).trans rfl, (blk_cell BK179.out 9).trans rfl, (blk_cell BK179.out 10).trans rfl, (blk_cell BK179.out 11).trans rfl, (blk_cell BK179.out 12).trans rfl, (blk_cell BK179.out 13).trans rfl, (blk_cell BK179.out 14).trans rfl, (blk_cell BK179.out 15).trans rfl⟩ (fun hHeld => ?_)
   clear hK K
   refine norm_ (a' := ?_) ?_ ?_
   rotate_left
   ·show Act.put _ (some 18) _ = _
    simp only [Pst.all]
    rfl
   refine one_ (i := 10) (N := some 19) q11_30 rfl rfl (one_of HT_.out (by kernel_rfl)) (by decide) (fun K hK => ?_)
   refine goes_ Tryz.func59 (by kernel_rfl) rfl #[.slice Ao18 y184.length co18] (by rfl) rfl rfl Pst.ga ?_
   with_reducible refine (impl_words.calls (fun k_ => some k_ = (.slice Ao18 y184.length co18 : Value).ownBlock) (.slice Ao18 y184.length co18) y184 t187 w _ ?side1 ?side2 A7.out).mono ?_
   (case side1 => repeat (first | (with_reducible first | exact HB.out | apply below_alloc | apply pw_below_drewN | apply below_drew1 | refine below_set ?_ GE179.out) | exact HB.out))
   (case side2 => exact Kd.R_tight rfl HO186.out)
   rintro e w19 ⟨rfl, hb, hkp⟩
   refine ⟨_, rfl, ?_⟩
   replace BK179 := Pst.A (blk_kept (Pst.qb BK179.out) hkp (fun hs_ => (fun e_ => (Kd.R_ne HO186.out BK179.out (by decide)) e_) hs_))
   replace HB := Pst.A hb
   clear HO186
   (try clear hb)
   (try clear hkp)
   refine hK.out _ _ ⟨(blk_cell BK179.out 0).trans rfl, (blk_cell BK179.out 1).trans rfl, (blk_cell BK179.out 2).trans rfl, (blk_cell BK179.out 3).trans rfl, (blk_cell BK179.out 4).trans rfl, (blk_cell BK179.out 5).trans rfl, (blk_cell BK179.out 6).trans rfl, (blk_cell BK179.out 7).trans rfl, (blk_cell BK179.out 8).trans rfl, (blk_cell BK179.out 9).trans rfl, (blk_cell BK179.out 10).trans rfl, (blk_cell BK179.out 11).trans rfl, (blk_cell BK179.out 12).trans rfl, (blk_cell BK179.out 13).trans rfl, (blk_cell BK179.out 14).trans rfl, (blk_cell BK179.out 15).trans rfl⟩ (fun hHeld => ?_)
   clear hK K
   refine norm_ (a' := ?_) ?_ ?_
   rotate_left
   ·show Act.put _ (some 19) _ = _
    simp only [Pst.all]
    rfl
   refine pure_ (i := 11) (N := some 20) (v := ?_) (a' := ?_) q12_30 rfl rfl (any_of HT_.out (by kernel_rfl)) (fun _ _ _ h => h) (Or.inl ⟨by rfl, ?_⟩) ?_ ?_
   rotate_left
   ·intro w'
    go_simp
    with_reducible rfl
   rotate_left
   ·simp only [Pst.all]
    rfl
   refine pure_ (i := 12) (N := some 3) (v := ?_) (a' := ?_) q13_30 rfl rfl (any_of HT_.out (by kernel_rfl)) (fun _ _ _ h => h) (Or.inl ⟨by rfl, ?_⟩) ?_ ?_
   rotate_left
   ·intro w'
    go_simp
    with_reducible rfl
   rotate_left
   ·simp only [Pst.all]
    rfl
   refine done_ (done_of HT_.out (by kernel_rfl)) ?_
   obtain ⟨hcz20_0, hcz20_1, hcz20_2, hcz20_3, hcz20_4, hcz20_5, hcz20_6, hcz20_7, hcz20_8, hcz20_9, hcz20_10, hcz20_11, hcz20_12, hcz20_13, hcz20_14, hcz20_15⟩ := Pst.c16 BK179.out
   obtain ⟨hfz20_0, hfz20_1, hfz20_2, hfz20_3, hfz20_4, hfz20_5, hfz20_6, hfz20_7, hfz20_8, hfz20_9, hfz20_10, hfz20_11, hfz20_12, hfz20_13, hfz20_14, hfz20_15⟩ := Pst.f16 BK179.out
   try go_wp2
   go_loopg [3, 24] k (fun kq v3 v24 w' => ∃ (x3_1 : ByteArray) (x24_1 : Int), v3 = .string x3_1 ∧ v24 = .int .i64 x24_1 ∧ Aside0 (impl_WorldText.l0 kq x3_1 l0_12 (l0_12.length : Int) x24_1 = some r) ∧ Aside0 (kq ≤ k) ∧ Aside0 (w'.heap[gb179]? = some (.cells #[.int .i64 a0_0, .int .i64 a0_1, .int .i64 a0_2, (.slice A0_3 l0_3.length c0_3), (.slice A0_4 l0_4.length c0_4), .int .i64 a0_5, .int .i64 a0_6, (.slice A0_7 l0_7.length c0_7), .int .i64 a0_8, .int .i64 a0_9, .int .i64 a0_10, .int .i64 a0_11, (.slice A0_12 l0_12.length c0_12), .int .i64 a0_13, .int .i64 a0_14, .int .i64 a0_15] 44 (0, 0))) ∧ Aside0 (Below w.heap.size w w'))
   case atStart => exact ⟨(t187 ++ (⟨#[58]⟩ : ByteArray)), (0), Pst.e2, Pst.e2, H', ⟨Nat.le_refl _⟩, ⟨by exact Pst.qb BK179.out⟩, ⟨Pst.bes⟩⟩
   clear H'
   try clear c2
   try clear p2
   try clear c3
   try clear c5
   try clear c6
   try clear c8
   try clear c8b0
   try clear c8b1
   try clear c8b2
   obtain ⟨x3_1, x24_1, rfl, rfl, HA, HK1, BK179, HB⟩ := hrel
   cases gk with
   | zero => exact absurd HA.out (by simp [impl_WorldText.l0])
   | succ k1 =>
    have H := HA.out
    clear HA
    simp only [impl_WorldText.l0] at H
    by_cases c21 : x24_1 < (l0_12.length : Int)
    ·rw [if_pos c21] at H
     have c21b0 : decide (x24_1 < (l0_12.length : Int)) = true := decide_eq_true c21
     clear c21
     by_cases c22 : 0 ≤ x24_1
     ·rw [if_pos c22] at H
      have c22b0 : decide (0 ≤ x24_1) = true := decide_eq_true c22
      clear c22
      by_cases c23 : x24_1 < (l0_12.length : Int)
      ·rw [if_pos c23] at H
       have c23b0 : decide (x24_1 < (l0_12.length : Int)) = true := decide_eq_true c23
       clear c23
       obtain ⟨t189, A240, H⟩ := Pst.bd H
       have A24 := Pst.A A240
       clear A240
       by_cases c25 : 1 + t189.size ≤ 9223372036854775807
       ·rw [if_pos c25] at H
        have c25b0 := eq_true c25
        have c25b1 : decide (1 + t189.size ≤ 9223372036854775807) = true := decide_eq_true c25
        try have c25b2 : (9223372036854775807 < 1 + t189.size) = False := eq_false (Nat.not_lt.2 c25)
        by_cases c26 : x3_1.size + ((⟨#[32]⟩ : ByteArray) ++ t189).size ≤ 9223372036854775807
        ·rw [if_pos c26] at H
         have c26b0 := eq_true c26
         have c26b1 : decide (x3_1.size + ((⟨#[32]⟩ : ByteArray) ++ t189).size ≤ 9223372036854775807) = true := decide_eq_true c26
         try have c26b2 : (9223372036854775807 < x3_1.size + ((⟨#[32]⟩ : ByteArray) ++ t189).size) = False := eq_false (Nat.not_lt.2 c26)
         have H' := Pst.A H
         clear H
         have p188 : 0 ≤ (x24_1 : Int) := Pst.da
         have q188 : x24_1 < (l0_12.length : Int) := Pst.da
         obtain ⟨ad188, e188, hx188_0⟩ := Kd.at_int HR0_12.out x24_1 p188 q188
         cases e188
         replace hx188_0 := (HB.out.cell (World.block_lt_of_cell? w _ hx188_0)).trans hx188_0
         replace p188 := eq_true p188
         replace q188 := eq_true q188
         go_wp2_with (first | ((with_reducible refine gate_callee (f := 57) rfl ?_); refine goesL_ (some 30) rfl rfl Tryz.func57 (by kernel_rfl) rfl #[.int .i64 (rd l0_12 x24_1)] rfl Pst.ga ?_; (with_reducible refine (impl_MilliText.calls k1 (rd l0_12 x24_1) t189 _ A24.out).mono ?_); rintro e w27 ⟨rfl, hb⟩; refine ⟨_, rfl, ?_⟩; replace BK179 := Pst.A (Pst.kb BK179.out hb); replace HB := Pst.A (below_step Pst.bes hb); (try clear hb); (try clear hb2); (try clear hk); (try clear hi)))
         go_roundg k1
         case measure => have := HK1.out; omega
         case rel => exact ⟨(x3_1 ++ ((⟨#[32]⟩ : ByteArray) ++ t189)), (wrap64 (x24_1 + 1)), Pst.e2, Pst.e2, H', ⟨by have := HK1.out; omega⟩, ⟨by exact Pst.qb BK179.out⟩, ⟨Pst.bes⟩⟩
        rw [if_neg c26] at H
        exact absurd H (by simp)
       rw [if_neg c25] at H
       exact absurd H (by simp)
      rw [if_neg c23] at H
      exact absurd H (by simp)
     rw [if_neg c22] at H
     exact absurd H (by simp)
    rw [if_neg c21] at H
    have c21b0 : decide (x24_1 < (l0_12.length : Int)) = false := decide_eq_false c21
    clear c21
    obtain rfl := Option.some.inj H
    go_wp2
    go_ret
    exact ⟨Pst.e1, Pst.bes⟩
  rw [if_neg c8] at H
  exact absurd H (by simp)
 replace c3 := Bool.eq_false_iff.mpr c3
 subst c3
 rw [if_neg Pst.ft] at H
 obtain rfl := Option.some.inj H
 go_enter Tryz.func30, Tryz.ntmps30
 go_wp2_with (first | ((with_reducible refine gate_dst (N := 1) rfl ?_); refine Pst.bx 1 #[.int .i64 a0_0, .int .i64 a0_1, .int .i64 a0_2, .slice A0_3 l0_3.length c0_3, .slice A0_4 l0_4.length c0_4, .int .i64 a0_5, .int .i64 a0_6, .slice A0_7 l0_7.length c0_7, .int .i64 a0_8, .int .i64 a0_9, .int .i64 a0_10, .int .i64 a0_11, .slice A0_12 l0_12.length c0_12, .int .i64 a0_13, .int .i64 a0_14, .int .i64 a0_15] 44 ?_; intro gb179 hg w28 hbox hb; have BK179 := Pst.A hbox; have GW179 := Pst.A (Pst.gs hg : w.heap.size ≤ gb179); have GE179 := Pst.A (Pst.gs hg : w.heap.size ≤ gb179); replace HB := Pst.A (below_step Pst.bel hb); clear hb hbox hg; obtain ⟨hcz29_0, hcz29_1, hcz29_2, hcz29_3, hcz29_4, hcz29_5, hcz29_6, hcz29_7, hcz29_8, hcz29_9, hcz29_10, hcz29_11, hcz29_12, hcz29_13, hcz29_14, hcz29_15⟩ := Pst.c16 BK179.out; obtain ⟨hfz29_0, hfz29_1, hfz29_2, hfz29_3, hfz29_4, hfz29_5, hfz29_6, hfz29_7, hfz29_8, hfz29_9, hfz29_10, hfz29_11, hfz29_12, hfz29_13, hfz29_14, hfz29_15⟩ := Pst.f16 BK179.out) | ((with_reducible refine gate_callee (f := 29) rfl ?_); refine goesL_ (some 7) rfl rfl Tryz.func29 (by kernel_rfl) rfl #[.agg #[.int .i64 a0_0, .int .i64 a0_1, .int .i64 a0_2, .slice A0_3 l0_3.length c0_3, .slice A0_4 l0_4.length c0_4, .int .i64 a0_5, .int .i64 a0_6, .slice A0_7 l0_7.length c0_7, .int .i64 a0_8, .int .i64 a0_9, .int .i64 a0_10, .int .i64 a0_11, .slice A0_12 l0_12.length c0_12, .int .i64 a0_13, .int .i64 a0_14, .int .i64 a0_15]] rfl Pst.ga ?_; (with_reducible refine (impl_WorldOk.calls k a0_0 a0_1 a0_2 _ _ l0_3 _ _ l0_4 a0_5 a0_6 _ _ l0_7 a0_8 a0_9 a0_10 a0_11 _ _ l0_12 a0_13 a0_14 a0_15 false _ ?side1 ?side2 ?side3 ?side4 ?side5 ?side6 ?side7 ?side8 A2.out).mono ?_); (case side1 => exact Pst.qc (Kd.C_below HR0_3.out HB.out)); (case side2 => exact HC0_3.out); (case side3 => exact Pst.qc (Kd.C_below HR0_4.out HB.out)); (case side4 => exact HC0_4.out); (case side5 => exact Pst.qc (Kd.C_below HR0_7.out HB.out)); (case side6 => exact HC0_7.out); (case side7 => exact Pst.qc (Kd.C_below HR0_12.out HB.out)); (case side8 => exact HC0_12.out); rintro e w30 ⟨rfl, hb⟩; refine ⟨_, rfl, ?_⟩; replace BK179 := Pst.A (Pst.kb BK179.out hb); replace HB := Pst.A (below_step Pst.bes hb); (try clear hb); (try clear hb2); (try clear hk); (try clear hi)))
 go_ret
 exact ⟨Pst.e1, Pst.bes⟩
theorem impl_WorldText.l0.st {x3 : ByteArray} {x22 : List Int} {x23 : Int} {x24 : Int} {r : (ByteArray)} (H : Ev (fun k => if x24 < x23 then (if 0 ≤ x24 then (if x24 < (x22.length : Int) then ((impl_MilliText.f k (rd x22 x24)).bind fun t189 => (if 1 + t189.size ≤ 9223372036854775807 then (if x3.size + ((⟨#[32]⟩ : ByteArray) ++ t189).size ≤ 9223372036854775807 then (impl_WorldText.l0 k (x3 ++ ((⟨#[32]⟩ : ByteArray) ++ t189)) x22 x23 (wrap64 (x24 + 1))) else (none)) else (none))) else (none)) else (none)) else (some x3)) r) : Ev (fun k => impl_WorldText.l0 k x3 x22 x23 x24) r := Ev.step (fun k => impl_WorldText.l0.eq_2 x3 x22 x23 x24 k) H

/-! ### impl_ParseWorld: function 7 -/
abbrev q0_7 : Array Bool := #[false, false, false, false, false, false, false, false, false, false, false, false, false, false, false, false, false, false]
abbrev q1_7 : Array Bool := #[false, false, true, false, false, false, false, false, false, false, false, false, false, false, false, false, false, false]
abbrev q2_7 : Array Bool := #[false, false, true, true, false, false, false, false, false, false, false, false, false, false, false, false, false, false]
abbrev q3_7 : Array Bool := #[false, false, true, true, false, false, true, false, false, false, false, false, false, false, false, false, false, false]
abbrev q4_7 : Array Bool := #[false, false, true, true, false, false, true, true, false, false, false, false, false, false, false, false, false, false]
abbrev q5_7 : Array Bool := #[false, false, true, true, false, false, true, true, false, false, true, false, false, false, false, false, false, false]
abbrev q6_7 : Array Bool := #[false, false, true, true, false, false, true, true, false, false, true, true, false, false, false, false, false, false]
/-- A world and a yes or no, as the calls tell them; no world. -/
abbrev WorldB : Type := Int × Int × Int × List S82 × List S102 × Int × Int × List S102 × Int × Int × Int × Int × List Int × Int × Int × Int × Bool
def noWorld : WorldB := (0, 0, 0, [], [], 0, 0, [], 0, 0, 0, 0, [], 0, 0, 0, false)
/-- The loads of the texts left, behind those that were read; none inside where a text is no load. -/
def impl_ParseWorld.l0 (k : Nat) : List ByteArray → List Int → Option (Option (List Int))
 | [], acc => some (some acc)
 | x :: xs, acc => (impl_ParseMilli.f k x).bind fun r => if r.2 = true then impl_ParseWorld.l0 k xs (acc ++ [r.1]) else some none
/-- What stands behind the loads. -/
def impl_ParseWorld.fin (k : Nat) (a0 : ByteArray) (a b c : Int) (g : List S82) (p : List S102) (d e : Int) (q : List S102) (m n i j : Int) (wa st co : Int) : Option (List Int) → Option WorldB
 | none => some noWorld
 | some L => (impl_WorldOk.f k a b c g p d e q m n i j L wa st co).bind fun ok => if ok = true then ((impl_WorldText.f k a b c g p d e q m n i j L wa st co).bind fun t => if t.toList = a0.toList then some (a, b, c, g, p, d, e, q, m, n, i, j, L, wa, st, co, true) else some noWorld) else some noWorld
/-- What stands behind the copy of the setup. -/
def impl_ParseWorld.go (k : Nat) (a0 : ByteArray) (P : List ByteArray) (a b c : Int) (g : List S82) (p : List S102) (d e : Int) (q : List S102) (m n i j : Int) : Option WorldB :=
 (impl_atoi.f (rdOf ByteArray.empty P 0)).bind fun co => (impl_atoi.f (rdOf ByteArray.empty P 2)).bind fun wa => (strings_TrimSuffix.f (rdOf ByteArray.empty P 4) (⟨#[58]⟩ : ByteArray)).bind fun y => (impl_atoi.f y).bind fun st =>
  (impl_ParseWorld.l0 k (P.drop 5) []).bind fun o => impl_ParseWorld.fin k a0 a b c g p d e q m n i j wa st co o
def impl_ParseWorld.f (k : Nat) (a0 : ByteArray) (a b c : Int) (g : List S82) (p : List S102) (d e : Int) (q : List S102) (m n i j : Int) : Option WorldB :=
 (strings_Split.f a0 (⟨#[32]⟩ : ByteArray)).bind fun P => if 6 ≤ P.length ∧ P.length ≤ 25 then ((impl_ownSetup.f a b c g p d e q m n i j).bind fun s => impl_ParseWorld.go k a0 P s.1 s.2.1 s.2.2.1 s.2.2.2.1 s.2.2.2.2.1 s.2.2.2.2.2.1 s.2.2.2.2.2.2.1 s.2.2.2.2.2.2.2.1 s.2.2.2.2.2.2.2.2.1 s.2.2.2.2.2.2.2.2.2.1 s.2.2.2.2.2.2.2.2.2.2.1 s.2.2.2.2.2.2.2.2.2.2.2) else some noWorld
theorem impl_ParseWorld.mono_l : ∀ xs acc k, LeO (impl_ParseWorld.l0 k xs acc) (impl_ParseWorld.l0 (k + 1) xs acc)
 | [], _, _ => LeO.refl _
 | x :: xs, acc, k => LeO.bind (impl_ParseMilli.mono _ _) fun _ => LeO.ite (impl_ParseWorld.mono_l xs _ k) (LeO.refl _)
theorem impl_ParseWorld.mono : ∀ a0 a b c g p d e q m n i j k, LeO (impl_ParseWorld.f k a0 a b c g p d e q m n i j) (impl_ParseWorld.f (k + 1) a0 a b c g p d e q m n i j) := by
 intro a0 a b c g p d e q m n i j k
 refine LeO.bind (LeO.refl _) fun P => LeO.ite (LeO.bind (LeO.refl _) fun s => ?_) (LeO.refl _)
 refine LeO.bind (LeO.refl _) fun co => LeO.bind (LeO.refl _) fun wa => LeO.bind (LeO.refl _) fun y => LeO.bind (LeO.refl _) fun st => LeO.bind (impl_ParseWorld.mono_l _ _ _) fun o => ?_
 cases o with
 | none => exact LeO.refl _
 | some L => exact LeO.bind (impl_WorldOk.mono _ _ _ _ _ _ _ _ _ _ _ _ _ _ _ _ _) fun _ => LeO.ite (LeO.bind (impl_WorldText.mono _ _ _ _ _ _ _ _ _ _ _ _ _ _ _ _ _) fun _ => LeO.refl _) (LeO.refl _)
--CALLS
theorem storeAll {P : Program} {ops : Array Oper} {rest : List Oper} {o : Oper} {a : Act} {w : World} {Q : Exit → Act → World → Prop} (hgd : o.guard = none) (ty : TypeId) (x y : Operand) (ho : o.op = .store ty x y)
 (g : Nat) (cells : Array Value) (hx : a.eval x = .pointer (some ⟨g, 0, none⟩)) (hy : a.eval y = .agg cells)
 (t : TypeId) (old : Array Value) (hg : w.heap[g]? = some (.cells old t (0, 0))) (hi : (P.info? ty).map (·.size) = some cells.size) (hold : old.size = cells.size) (h1 : cells.all (·.oneCell') = true)
 (h : ∀ w1, w1.heap[g]? = some (.cells cells t (0, 0)) → w.grownBy w1 (some g) → wpList P ops Q rest (a.put o.dst undef) w1) : wpList P ops Q (o :: rest) a w :=
 wpList_store_row hgd ty x y ho g cells hx hy t old hg hi hold h1 (h _ (setRow_heap w g old cells t _ hg) ⟨rfl, rfl, rfl, by simp [World.setRow], fun k _ hk => setRow_other w g k cells (fun e => hk (by rw [e]))⟩)
theorem implIn625 (P : List ByteArray) : impl_in.f (P.length : Int) 6 25 = some (decide (6 ≤ P.length ∧ P.length ≤ 25)) := by
 have e : decide (6 ≤ P.length ∧ P.length ≤ 25) = decide ((6 : Int) ≤ (P.length : Int) ∧ (P.length : Int) ≤ 25) := by
  congr 1
  exact propext ⟨fun h => by omega, fun h => by omega⟩
 rw [e]
 unfold impl_in.f
 simp only [ge_iff_le, Bool.decide_and]
 by_cases h1 : (6 : Int) ≤ (P.length : Int) <;> simp [h1]
theorem loadAll {P : Program} {o : Oper} {a : Act} {w : World} (ty : TypeId) (x : Operand) (ho : o.op = .load ty x) (g : Nat) (hx : a.eval x = .pointer (some ⟨g, 0, none⟩)) (t : TypeId) (cs : Array Value) (d : TypeDesc)
 (hg : w.heap[g]? = some (.cells cs t (0, 0))) (hu : P.underlying ty = some d) (hd : (match d with | .struct _ | .array _ _ => true | _ => false) = true) (hi : (P.info? ty).map (·.size) = some cs.size) :
 (execOp a.eval o).run P w = .ok (.value (.agg cs)) w := by
 unfold execOp
 simp only [ho, hx, Instr.loadAt, Instr.sureAddr, Sem.run_bind, Sem.run_pure, Result.andThen_ok, run_loadVar_row w g t ty cs (0, 0) d hg hu hd hi]
theorem storeStep {P : Program} {ops : Array Oper} {o : Oper} {a : Act} {w : World} {K : Act → World → Prop} {Q : Exit → Act → World → Prop} (hw : Region.wanted o (yielded ops a.tmps) = true) (hN : o.dst = none) (ty : TypeId) (x y : Operand) (ho : o.op = .store ty x y)
 (g : Nat) (cells : Array Value) (hx : a.eval x = .pointer (some ⟨g, 0, none⟩)) (hy : a.eval y = .agg cells)
 (t : TypeId) (old : Array Value) (hg : w.heap[g]? = some (.cells old t (0, 0))) (hi : (P.info? ty).map (·.size) = some cells.size) (hold : old.size = cells.size) (h1 : cells.all (·.oneCell') = true)
 (h : ∀ w1, w1.heap[g]? = some (.cells cells t (0, 0)) → w.grownBy w1 (some g) → K a w1) : if Region.wanted o (yielded ops a.tmps) = true then Oper.wp P o a w K Q else K (a.put none undef) w := by
 refine skip_ (w1 := w.setRow g cells) hw hN ?_ (h _ (setRow_heap w g old cells t _ hg) ⟨rfl, rfl, rfl, by simp [World.setRow], fun k _ hk => setRow_other w g k cells (fun e => hk (by rw [e]))⟩)
 unfold execOp
 simp only [ho, hx, hy, Instr.storeAt, Instr.sureAddr, Sem.run_bind, Sem.run_pure, Result.andThen_ok, run_storeVar_row w g t ty old cells hg hi hold h1]
theorem oneInt (k : IntKind) (z : Int) : (Value.int k z).oneCell' = true := rfl
theorem oneSlice (a : Option Addr) (n c : Nat) : (Value.slice a n c).oneCell' = true := rfl
theorem R_oneCell {α : Type} {d : Kd α} {e base : Nat} {w : World} {ok : Nat → Prop} {v : Value} {xs : List α} (h : d.R e w base ok v xs) : v.oneCell' = true := by
 obtain ⟨A, c, rfl⟩ := Kd.R_slice h
 rfl
theorem ownStrings {w : World} {base : Nat} {ok : Nat → Prop} {v : Value} {P : List ByteArray} (h : Kd.R Kd.string 9 w base ok v P) (hP : 1 ≤ P.length) :
 ∃ g cap cur, v = .slice (some ⟨g, 0, none⟩) P.length cap ∧ base ≤ g ∧ w.heap[g]? = some (.cells cur 9 (0, 0)) ∧ P.length ≤ cap ∧ cap ≤ maxLen ∧ ∀ j : Nat, j < P.length → cur[j]? = some (.string (rdOf ByteArray.empty P (j : Int))) := by
 obtain ⟨hok, inner, hown, hrep⟩ := h
 obtain ⟨hlen, hv⟩ := hown
 rcases hv with ⟨rfl, h0⟩ | ⟨g, cap, cur, rfl, hbase, hg, hnc, hcm, hcs, htake⟩
 ·omega
 refine ⟨g, cap, cur, rfl, hbase, hg, hnc, hcm, fun j hj => ?_⟩
 have h1 := hrep.2 j _ (List.getElem?_eq_getElem hj)
 have h2 : (inner.drop (j * 1)).take 1 = [.string P[j]] := h1
 have h3 : ((inner.drop (j * 1)).take 1)[0]? = some (.string P[j]) := by rw [h2]; rfl
 rw [List.getElem?_take, if_pos (by omega), List.getElem?_drop, ← htake, List.getElem?_take, if_pos (by show j * 1 + 0 < P.length * 1; omega)] at h3
 rw [← Array.getElem?_toList]
 rw [Nat.mul_one, Nat.add_zero] at h3
 rw [h3]
 unfold rdOf
 rw [Int.toNat_natCast, List.getD_eq_getElem?_getD, List.getElem?_eq_getElem hj]
 rfl
theorem infoInt : (Tryz.prog.info? 3).map (fun i => (i.zero, i.size, i.bytes)) = some (some (.int .i64 0), 1, 8) := by kernel_rfl
theorem dropRd (P : List ByteArray) (i : Nat) (h : i < P.length) : P.drop i = rdOf ByteArray.empty P (i : Int) :: P.drop (i + 1) := by
 rw [List.drop_eq_getElem_cons h]
 congr 1
 unfold rdOf
 rw [Int.toNat_natCast, List.getD_eq_getElem?_getD, List.getElem?_eq_getElem h]
 rfl
theorem noWorldIs {r1 r2 r3 : Int} {r4 : List S82} {r5 : List S102} {r6 r7 : Int} {r8 : List S102} {r9 r10 r11 r12 : Int} {r13 : List Int} {r14 r15 r16 : Int} {r17 : Bool} (h : some noWorld = some (r1, r2, r3, r4, r5, r6, r7, r8, r9, r10, r11, r12, r13, r14, r15, r16, r17)) :
 r1 = 0 ∧ r2 = 0 ∧ r3 = 0 ∧ r4 = [] ∧ r5 = [] ∧ r6 = 0 ∧ r7 = 0 ∧ r8 = [] ∧ r9 = 0 ∧ r10 = 0 ∧ r11 = 0 ∧ r12 = 0 ∧ r13 = [] ∧ r14 = 0 ∧ r15 = 0 ∧ r16 = 0 ∧ r17 = false := by
 simp only [noWorld, Option.some.injEq, Prod.mk.injEq] at h
 obtain ⟨rfl, rfl, rfl, rfl, rfl, rfl, rfl, rfl, rfl, rfl, rfl, rfl, rfl, rfl, rfl, rfl, rfl⟩ := h
 exact ⟨rfl, rfl, rfl, rfl, rfl, rfl, rfl, rfl, rfl, rfl, rfl, rfl, rfl, rfl, rfl, rfl, rfl⟩
def impl_ParseWorld.T4 : Bool × List (List Nat × List Nat) := (true, [([], []), ([0], [0]), ([], []), ([2], [2]), ([3], [3]), ([4, 1], [4]), ([], []), ([6], [6]), ([7], [7]), ([8, 5], [8]), ([], []), ([10], [10]), ([11], [11]), ([12, 9], [12]), ([13, 13], [13]), ([1, 5, 9, 14], [1, 5, 9, 14]), ([], []), ([16, 15, 14, 0, 1, 2, 3, 4, 5, 6, 7, 8, 9, 10, 11, 12, 13, 14, 15, 16], [15, 16])])
def impl_ParseWorld.B4 : List Nat := [0, 1, 0, 4, 12, 31, 0, 64, 192, 511, 0, 1024, 3072, 8191, 16383, 32767, 0, 131071]
theorem impl_ParseWorld.tab4 : rtab .any (opsOf Tryz.f7 4) = impl_ParseWorld.T4 := by kernel_rfl
theorem impl_ParseWorld.bits4 : waitsOk impl_ParseWorld.T4.2 impl_ParseWorld.B4 = true := by kernel_rfl
theorem impl_ParseWorld.calls (k : Nat) (a0 : ByteArray) (a1_0 : Int) (a1_1 : Int) (a1_2 : Int) (A1_3 : Option Addr) (c1_3 : Nat) (l1_3 : List (S82)) (A1_4 : Option Addr) (c1_4 : Nat) (l1_4 : List (S102)) (a1_5 : Int) (a1_6 : Int) (A1_7 : Option Addr) (c1_7 : Nat) (l1_7 : List (S102)) (a1_8 : Int) (a1_9 : Int) (a1_10 : Int) (a1_11 : Int) (r1 : Int) (r2 : Int) (r3 : Int) (r4 : List (S82)) (r5 : List (S102)) (r6 : Int) (r7 : Int) (r8 : List (S102)) (r9 : Int) (r10 : Int) (r11 : Int) (r12 : Int) (r13 : List Int) (r14 : Int) (r15 : Int) (r16 : Int) (r17 : Bool) (w : World) (hr1_3 : Kd.C k82 w A1_3 l1_3.length l1_3) (hc1_3 : l1_3.length ≤ c1_3) (hr1_4 : Kd.C k102 w A1_4 l1_4.length l1_4) (hc1_4 : l1_4.length ≤ c1_4) (hr1_7 : Kd.C k102 w A1_7 l1_7.length l1_7) (hc1_7 : l1_7.length ≤ c1_7) (h : impl_ParseWorld.f k a0 a1_0 a1_1 a1_2 l1_3 l1_4 a1_5 a1_6 l1_7 a1_8 a1_9 a1_10 a1_11 = some (r1, r2, r3, r4, r5, r6, r7, r8, r9, r10, r11, r12, r13, r14, r15, r16, r17)) (tab_ : Tab w := by exact HT.out.on Pst.bel) :
 Calls Tryz.prog 7 #[.string a0, .agg #[.int .i64 a1_0, .int .i64 a1_1, .int .i64 a1_2, .slice A1_3 l1_3.length c1_3, .slice A1_4 l1_4.length c1_4, .int .i64 a1_5, .int .i64 a1_6, .slice A1_7 l1_7.length c1_7, .int .i64 a1_8, .int .i64 a1_9, .int .i64 a1_10, .int .i64 a1_11]] w fun e w' => ∃ v3_ v4_ v7_ v12_ : Value, e = .returned (.tuple #[.agg #[.int .i64 r1, .int .i64 r2, .int .i64 r3, v3_, v4_, .int .i64 r6, .int .i64 r7, v7_, .int .i64 r9, .int .i64 r10, .int .i64 r11, .int .i64 r12, v12_, .int .i64 r14, .int .i64 r15, .int .i64 r16], .bool r17]) ∧ Kd.R k82 82 w' w.heap.size (fun _ => True) v3_ r4 ∧ Kd.R k102 102 w' w.heap.size (fun k_ => some k_ ≠ (v7_ : Value).ownBlock) v4_ r5 ∧ Kd.R k102 102 w' w.heap.size (fun k_ => some k_ ≠ (v4_ : Value).ownBlock) v7_ r8 ∧ Kd.R (Kd.int .i64) 3 w' w.heap.size (fun _ => True) v12_ r13 ∧ Below w.heap.size w w' := by
 have HT := Pst.A tab_
 clear tab_
 have hu41 := Tryz.underlying41
 have hu44 := Tryz.underlying44
 have HR3 := Pst.A hr1_3
 have HR4 := Pst.A hr1_4
 have HR7 := Pst.A hr1_7
 have HC3 := Pst.A hc1_3
 have HC4 := Pst.A hc1_4
 have HC7 := Pst.A hc1_7
 clear hr1_3 hr1_4 hr1_7 hc1_3 hc1_4 hc1_7
 have HB := Pst.A (Below.refl w.heap.size w)
 obtain ⟨P, AP, H⟩ := Option.bind_eq_some_iff.1 h
 replace AP := Pst.A AP
 clear h
 by_cases hP : 6 ≤ P.length ∧ P.length ≤ 25
 ·rw [if_pos hP] at H
  obtain ⟨⟨s1, s2, s3, s4, s5, s6, s7, s8, s9, s10, s11, s12⟩, AO, H⟩ := Option.bind_eq_some_iff.1 H
  obtain ⟨co, A0, H⟩ := Option.bind_eq_some_iff.1 H
  obtain ⟨wa, A2, H⟩ := Option.bind_eq_some_iff.1 H
  obtain ⟨y, AY, H⟩ := Option.bind_eq_some_iff.1 H
  obtain ⟨st, AS, H⟩ := Option.bind_eq_some_iff.1 H
  obtain ⟨oL, AL, H⟩ := Option.bind_eq_some_iff.1 H
  replace AO := Pst.A AO
  replace A0 := Pst.A A0
  replace A2 := Pst.A A2
  replace AY := Pst.A AY
  replace AS := Pst.A AS
  replace AL := Pst.A AL
  replace H := Pst.A H
  have hPb := decide_eq_true hP
  have HPL := Pst.A hP
  clear hP
  go_enter Tryz.func7, Tryz.ntmps7
  go_upto_region 4 with (first
   | ((with_reducible refine gate_dst (N := 3) rfl ?_); refine Pst.bx 3 #[.int .i64 a1_0, .int .i64 a1_1, .int .i64 a1_2, .slice A1_3 l1_3.length c1_3, .slice A1_4 l1_4.length c1_4, .int .i64 a1_5, .int .i64 a1_6, .slice A1_7 l1_7.length c1_7, .int .i64 a1_8, .int .i64 a1_9, .int .i64 a1_10, .int .i64 a1_11] 41 ?_; intro g3 hg wg3 hbox hb; have n0_ := Pst.A (below_step Pst.bel hb); have n1_ := Pst.A hbox; have n2_ := Pst.A (Pst.gs hg : w.heap.size ≤ g3); clear HB; have HB := n0_; have BKg3 := n1_; have GEg3 := n2_; clear n0_ n1_ n2_ ; clear hb hbox hg)
   | ((with_reducible refine gate_dst (N := 4) rfl ?_); refine Pst.bx 4 #[.int .i64 0, .int .i64 0, .int .i64 0, .slice none 0 0, .slice none 0 0, .int .i64 0, .int .i64 0, .slice none 0 0, .int .i64 0, .int .i64 0, .int .i64 0, .int .i64 0, .slice none 0 0, .int .i64 0, .int .i64 0, .int .i64 0] 44 ?_; intro g4 hg wg4 hbox hb; have n0_ := Pst.A (below_step Pst.bel hb); have n1_ := Pst.A hbox; have n2_ := Pst.A (Pst.gs hg : w.heap.size ≤ g4); have m0_ := Pst.A (Pst.kb BKg3.out hb); clear HB; have HB := n0_; have BKg4 := n1_; have GEg4 := n2_; clear BKg3; have BKg3 := m0_; clear n0_ n1_ n2_ m0_; clear hb hbox hg)
   | (go_at_call 23; refine (strings_Split.calls a0 (⟨#[32]⟩ : ByteArray) P _ AP.out (HT.out.on Pst.bel)).mono ?_; rintro e w5 ⟨v6, rfl, hR6, hb⟩; have m3_ := Pst.A hR6; have m0_ := Pst.A (below_step Pst.bel hb); have m1_ := Pst.A (Pst.kb BKg3.out hb); have m2_ := Pst.A (Pst.kb BKg4.out hb); have m4_ := Pst.A hb.size; clear hR6 hb; clear HB BKg3 BKg4; have HB := m0_; have BKg3 := m1_; have BKg4 := m2_; have HR6 := m3_; clear m0_ m1_ m2_ m3_ m4_; obtain ⟨A6, c6, e6⟩ := Kd.R_slice HR6.out; subst e6)
   | (go_at_call 24; refine (impl_in.calls (P.length : Int) 6 25 _ _ (implIn625 P)).mono ?_; rintro e w6 ⟨rfl, ⟨nd, rfl⟩⟩))
  obtain ⟨gp, cp, cur, e6, hgp, hcur, hpc, hcm, hS⟩ := ownStrings HR6.out (by have := HPL.out; omega)
  obtain ⟨rfl, rfl⟩ : A6 = some ⟨gp, 0, none⟩ ∧ c6 = cp := by injection e6 with q1 q2 q3; exact ⟨q1, q3⟩
  clear e6
  have BKp := Pst.A (show (w5.drewN nd).heap[gp]? = some (.cells cur 9 (0, 0)) from hcur)
  have HB6 := Pst.A (show Below w.heap.size w (w5.drewN nd) from Pst.bel)
  have BK3 := Pst.A (show (w5.drewN nd).heap[g3]? = some (.cells #[.int .i64 a1_0, .int .i64 a1_1, .int .i64 a1_2, .slice A1_3 l1_3.length c1_3, .slice A1_4 l1_4.length c1_4, .int .i64 a1_5, .int .i64 a1_6, .slice A1_7 l1_7.length c1_7, .int .i64 a1_8, .int .i64 a1_9, .int .i64 a1_10, .int .i64 a1_11] 41 (0, 0)) from BKg3.out)
  have BK4 := Pst.A (show (w5.drewN nd).heap[g4]? = some (.cells #[.int .i64 0, .int .i64 0, .int .i64 0, .slice none 0 0, .slice none 0 0, .int .i64 0, .int .i64 0, .slice none 0 0, .int .i64 0, .int .i64 0, .int .i64 0, .int .i64 0, .slice none 0 0, .int .i64 0, .int .i64 0, .int .i64 0] 44 (0, 0)) from BKg4.out)
  have HS := Pst.A hS
  have hi0 : (0 < P.length) = True := eq_true (by have := HPL.out; omega)
  have hi2 : (2 < (P.length : Int)) = True := eq_true (by have := HPL.out; omega)
  have hi4 : (4 < (P.length : Int)) = True := eq_true (by have := HPL.out; omega)
  clear HB BKg3 BKg4 hcur hS HR6 hgp
  generalize w5.drewN nd = w6 at HB6 BK3 BK4 BKp ⊢
  refine start_ (n := 18) (S := fun w' => True) (ds := []) q0_7 (by kernel_rfl) rfl rfl trivial (fun hHeld => ?_)
  refine with_tabW impl_ParseWorld.tab4 impl_ParseWorld.bits4 (fun HT_ HW_ => ?_)
  have HB : Aside0 (Below w6.heap.size w6 w6.drew) := Pst.A (below_drew1 (Below.refl _ _))
  refine pure_ (i := 2) (N := some 21) (v := ?_) (a' := ?_) q1_7 rfl rfl (any_of HT_.out (by kernel_rfl)) (fun _ _ _ h => h) (Or.inl ⟨by rfl, ?_⟩) ?_ ?_
  rotate_left
  ·intro w'
   go_simp
   with_reducible rfl
  rotate_left
  ·simp only [Pst.all]
   rfl
  refine pure_ (i := 3) (N := some 22) (v := ?_) (a' := ?_) q2_7 rfl rfl (any_of HT_.out (by kernel_rfl)) (fun _ _ _ h => h) (Or.inl ⟨by rfl, ?_⟩) ?_ ?_
  rotate_left
  ·intro w'
   go_simp
   with_reducible rfl
  rotate_left
  ·simp only [Pst.all]
   rfl
  refine pure_ (i := 6) (N := some 25) (v := ?_) (a' := ?_) q3_7 rfl rfl (any_of HT_.out (by kernel_rfl)) (fun _ _ _ h => h) (Or.inl ⟨by rfl, ?_⟩) ?_ ?_
  rotate_left
  ·intro w'
   go_simp
   with_reducible rfl
  rotate_left
  ·simp only [Pst.all]
   rfl
  refine pure_ (i := 7) (N := some 26) (v := ?_) (a' := ?_) q4_7 rfl rfl (any_of HT_.out (by kernel_rfl)) (fun _ _ _ h => h) (Or.inl ⟨by rfl, ?_⟩) ?_ ?_
  rotate_left
  ·intro w'
   go_simp
   with_reducible rfl
  rotate_left
  ·simp only [Pst.all]
   rfl
  refine pure_ (i := 10) (N := some 29) (v := ?_) (a' := ?_) q5_7 rfl rfl (any_of HT_.out (by kernel_rfl)) (fun _ _ _ h => h) (Or.inl ⟨by rfl, ?_⟩) ?_ ?_
  rotate_left
  ·intro w'
   go_simp
   with_reducible rfl
  rotate_left
  ·simp only [Pst.all]
   rfl
  refine pure_ (i := 11) (N := some 30) (v := ?_) (a' := ?_) q6_7 rfl rfl (any_of HT_.out (by kernel_rfl)) (fun _ _ _ h => h) (Or.inl ⟨by rfl, ?_⟩) ?_ ?_
  rotate_left
  ·intro w'
   go_simp
   with_reducible rfl
  rotate_left
  ·simp only [Pst.all]
   rfl
  refine inv_at [0, 1, 4, 5, 8, 9, 12, 13, 14, 15, 16, 17] (fun a0_ b a w' => ∃ (v3 : Value) (v4 : Value) (v7 : Value) (g7 : Nat) (m1_ : Value) (m15_ : Value) (m16_ : Value), a = putSel a0_ b [(0, 19, .agg #[.int .i64 a1_0, .int .i64 a1_1, .int .i64 a1_2, .slice A1_3 l1_3.length c1_3, .slice A1_4 l1_4.length c1_4, .int .i64 a1_5, .int .i64 a1_6, .slice A1_7 l1_7.length c1_7, .int .i64 a1_8, .int .i64 a1_9, .int .i64 a1_10, .int .i64 a1_11]), (1, 20, m1_), (4, 23, .string (rdOf ByteArray.empty P 0)), (5, 24, .int .i64 co), (8, 27, .string (rdOf ByteArray.empty P 2)), (9, 28, .int .i64 wa), (12, 31, .string (rdOf ByteArray.empty P 4)), (13, 32, .string y), (14, 33, .int .i64 st), (15, 34, m15_), (16, 7, m16_)] ∧ (Below w6.heap.size w6 w') ∧ (b 1 = true → Kd.R k82 82 w' w6.heap.size (fun _ => True) v3 s4) ∧ (b 1 = true → Kd.R k102 102 w' w6.heap.size (fun k_ => some k_ ≠ (v7 : Value).ownBlock) v4 s5) ∧ (b 1 = true → Kd.R k102 102 w' w6.heap.size (fun k_ => some k_ ≠ (v4 : Value).ownBlock) v7 s8) ∧ (b 16 = true → w6.heap.size ≤ g7) ∧ (b 16 = true → b 17 = false → w'.heap[g7]? = some (.cells #[.int .i64 0, .int .i64 0, .int .i64 0, .slice none 0 0, .slice none 0 0, .int .i64 0, .int .i64 0, .slice none 0 0, .int .i64 0, .int .i64 0, .int .i64 0, .int .i64 0, .slice none 0 0, .int .i64 0, .int .i64 0, .int .i64 0] 44 (0, 0))) ∧ (b 17 = true → w'.heap[g7]? = some (.cells #[.int .i64 s1, .int .i64 s2, .int .i64 s3, v3, v4, .int .i64 s6, .int .i64 s7, v7, .int .i64 s9, .int .i64 s10, .int .i64 s11, .int .i64 s12, .slice none 0 0, .int .i64 wa, .int .i64 st, .int .i64 co] 44 (0, 0))) ∧ (b 1 = true → (m1_ : Value) = .agg #[.int .i64 s1, .int .i64 s2, .int .i64 s3, v3, v4, .int .i64 s6, .int .i64 s7, v7, .int .i64 s9, .int .i64 s10, .int .i64 s11, .int .i64 s12]) ∧ (b 15 = true → (m15_ : Value) = .agg #[.int .i64 s1, .int .i64 s2, .int .i64 s3, v3, v4, .int .i64 s6, .int .i64 s7, v7, .int .i64 s9, .int .i64 s10, .int .i64 s11, .int .i64 s12, .slice none 0 0, .int .i64 wa, .int .i64 st, .int .i64 co]) ∧ (b 16 = true → (m16_ : Value) = .pointer (some ⟨g7, 0, none⟩))) HT_.out HW_.out (by kernel_rfl) (by kernel_rfl) ?_ ?_ ?_
  ·exact ⟨.bool false, .bool false, .bool false, 0, .bool false, .bool false, .bool false, by simp only [putSel, Bool.false_eq_true, if_false], HB.out, fun h_ => absurd h_ (by decide), fun h_ => absurd h_ (by decide), fun h_ => absurd h_ (by decide), fun h_ => absurd h_ (by decide), fun h_ => absurd h_ (by decide), fun h_ => absurd h_ (by decide), fun h_ => absurd h_ (by decide), fun h_ => absurd h_ (by decide), fun h_ => absurd h_ (by decide)⟩
  ·skip
   clear HB
   refine steps_cons ?_ ?_
   ·rintro b a w' ⟨v3, v4, v7, g7, m1_, m15_, m16_, ha, Q_HB, Q_HO3, Q_HO4, Q_HO7, Q_GE7, Q_BK7, Q_BKF, Q_X1_, Q_X15_, Q_X16_⟩ hb_ hon hoff
    refine ⟨_, rfl, fun K hK => ?_⟩
    have e3 : a.tmps[3]? = some (.pointer (some ⟨g3, 0, none⟩)) := by rw [ha]; exact (putSel_off rfl).trans rfl
    replace ha := Pst.A ha
    have HB := Pst.A Q_HB
    refine value_ (w1 := w') (v := .agg #[.int .i64 a1_0, .int .i64 a1_1, .int .i64 a1_2, .slice A1_3 l1_3.length c1_3, .slice A1_4 l1_4.length c1_4, .int .i64 a1_5, .int .i64 a1_6, .slice A1_7 l1_7.length c1_7, .int .i64 a1_8, .int .i64 a1_9, .int .i64 a1_10, .int .i64 a1_11]) (by rfl) rfl (loadAll 41 (.tmp 3) rfl g3 (by simp only [Act.eval, Array.getD_eq_getD_getElem?, e3, Option.getD_some]) 41 _ _ (blk_below BK3.out HB.out) Tryz.underlying41 rfl (by kernel_rfl)) ?_
    refine hK.out _ _ ⟨v3, v4, v7, g7, m1_, m15_, m16_, (by rw [ha.out]; exact putSel_upk 0 hb_ rfl rfl rfl), HB.out, fun h0_ => absurd ((hoff 1 (by kernel_rfl)).symm.trans h0_) (by decide), fun h0_ => absurd ((hoff 1 (by kernel_rfl)).symm.trans h0_) (by decide), fun h0_ => absurd ((hoff 1 (by kernel_rfl)).symm.trans h0_) (by decide), Q_GE7, fun h0_ h1_ => (Q_BK7 h0_ h1_), fun h0_ => absurd ((hoff 17 (by kernel_rfl)).symm.trans h0_) (by decide), fun h0_ => absurd ((hoff 1 (by kernel_rfl)).symm.trans h0_) (by decide), fun h0_ => absurd ((hoff 15 (by kernel_rfl)).symm.trans h0_) (by decide), Q_X16_⟩
   refine steps_cons ?_ ?_
   ·rintro b a w' ⟨v3, v4, v7, g7, m1_, m15_, m16_, ha, Q_HB, Q_HO3, Q_HO4, Q_HO7, Q_GE7, Q_BK7, Q_BKF, Q_X1_, Q_X15_, Q_X16_⟩ hb_ hon hoff
    refine ⟨_, rfl, fun K hK => ?_⟩
    have e19 : a.tmps[19]? = some (.agg #[.int .i64 a1_0, .int .i64 a1_1, .int .i64 a1_2, .slice A1_3 l1_3.length c1_3, .slice A1_4 l1_4.length c1_4, .int .i64 a1_5, .int .i64 a1_6, .slice A1_7 l1_7.length c1_7, .int .i64 a1_8, .int .i64 a1_9, .int .i64 a1_10, .int .i64 a1_11]) := by rw [ha]; exact putSel_on (e := (0, 19, .agg #[.int .i64 a1_0, .int .i64 a1_1, .int .i64 a1_2, .slice A1_3 l1_3.length c1_3, .slice A1_4 l1_4.length c1_4, .int .i64 a1_5, .int .i64 a1_6, .slice A1_7 l1_7.length c1_7, .int .i64 a1_8, .int .i64 a1_9, .int .i64 a1_10, .int .i64 a1_11])) 0 rfl rfl (hon 0 (by kernel_rfl)) rfl
    replace ha := Pst.A ha
    have HB := Pst.A Q_HB
    refine goes_ Tryz.func25 (by kernel_rfl) rfl #[.agg #[.int .i64 a1_0, .int .i64 a1_1, .int .i64 a1_2, .slice A1_3 l1_3.length c1_3, .slice A1_4 l1_4.length c1_4, .int .i64 a1_5, .int .i64 a1_6, .slice A1_7 l1_7.length c1_7, .int .i64 a1_8, .int .i64 a1_9, .int .i64 a1_10, .int .i64 a1_11]] (by rfl) rfl rfl (by first | (simp only [List.map_toArray, List.map_cons, List.map_nil, Act.eval, Array.getD_eq_getD_getElem?, Option.getD_some, e19]; done) | (simp only [List.map_toArray, List.map_cons, List.map_nil, Act.eval, Array.getD_eq_getD_getElem?, Option.getD_some, e19]; rfl)) ?_
    with_reducible refine (impl_ownSetup.calls a1_0 a1_1 a1_2 A1_3 c1_3 l1_3 A1_4 c1_4 l1_4 a1_5 a1_6 A1_7 c1_7 l1_7 a1_8 a1_9 a1_10 a1_11 s1 s2 s3 s4 s5 s6 s7 s8 s9 s10 s11 s12 _ (Kd.C_below HR3.out (below_step HB6.out HB.out)) HC3.out (Kd.C_below HR4.out (below_step HB6.out HB.out)) HC4.out (Kd.C_below HR7.out (below_step HB6.out HB.out)) HC7.out AO.out).mono ?_
    rintro e w2 ⟨v3_, v4_, v7_, rfl, hr3, hr4, hr7, hb⟩
    refine ⟨_, rfl, ?_⟩
    refine hK.out _ _ ⟨v3_, v4_, v7_, g7, (.agg #[.int .i64 s1, .int .i64 s2, .int .i64 s3, v3_, v4_, .int .i64 s6, .int .i64 s7, v7_, .int .i64 s9, .int .i64 s10, .int .i64 s11, .int .i64 s12]), m15_, m16_, (by rw [ha.out]; exact putSel_upk 1 hb_ rfl rfl rfl), below_step HB.out hb, fun _ => Kd.R_lower hr3 HB.out.size, fun _ => Kd.R_lower hr4 HB.out.size, fun _ => Kd.R_lower hr7 HB.out.size, Q_GE7, fun h0_ h1_ => blk_below (Q_BK7 h0_ h1_) hb, fun h0_ => absurd ((hoff 17 (by kernel_rfl)).symm.trans h0_) (by decide), fun _ => rfl, fun h0_ => absurd ((hoff 15 (by kernel_rfl)).symm.trans h0_) (by decide), Q_X16_⟩
   refine steps_cons ?_ ?_
   ·rintro b a w' ⟨v3, v4, v7, g7, m1_, m15_, m16_, ha, Q_HB, Q_HO3, Q_HO4, Q_HO7, Q_GE7, Q_BK7, Q_BKF, Q_X1_, Q_X15_, Q_X16_⟩ hb_ hon hoff
    refine ⟨_, rfl, fun K hK => ?_⟩
    have e22 : a.tmps[22]? = some (.pointer (some ⟨gp, 0, none⟩)) := by rw [ha]; exact (putSel_off rfl).trans rfl
    replace ha := Pst.A ha
    have HB := Pst.A Q_HB
    have hs_ : w'.cell? ⟨gp, 0, none⟩ = some (.string (rdOf ByteArray.empty P 0)) := (blk_cell (blk_below BKp.out HB.out) 0).trans (HS.out 0 (by have := HPL.out; omega))
    refine value_ (w1 := w') (v := .string (rdOf ByteArray.empty P 0)) (by rfl) rfl ?_ ?_
    ·go_simp
     (try simp only [i64_w])
     try rfl
    refine hK.out _ _ ⟨v3, v4, v7, g7, m1_, m15_, m16_, (by rw [ha.out]; exact putSel_upk 2 hb_ rfl rfl rfl), HB.out, fun h0_ => (Q_HO3 h0_), fun h0_ => (Q_HO4 h0_), fun h0_ => (Q_HO7 h0_), Q_GE7, fun h0_ h1_ => (Q_BK7 h0_ h1_), fun h0_ => absurd ((hoff 17 (by kernel_rfl)).symm.trans h0_) (by decide), Q_X1_, fun h0_ => absurd ((hoff 15 (by kernel_rfl)).symm.trans h0_) (by decide), Q_X16_⟩
   refine steps_cons ?_ ?_
   ·rintro b a w' ⟨v3, v4, v7, g7, m1_, m15_, m16_, ha, Q_HB, Q_HO3, Q_HO4, Q_HO7, Q_GE7, Q_BK7, Q_BKF, Q_X1_, Q_X15_, Q_X16_⟩ hb_ hon hoff
    refine ⟨_, rfl, fun K hK => ?_⟩
    have e23 : a.tmps[23]? = some (.string (rdOf ByteArray.empty P 0)) := by rw [ha]; exact putSel_on (e := (4, 23, .string (rdOf ByteArray.empty P 0))) 2 rfl rfl (hon 4 (by kernel_rfl)) rfl
    replace ha := Pst.A ha
    have HB := Pst.A Q_HB
    have HO3 := Pst.A (Q_HO3 (hon 1 (by kernel_rfl)))
    have HO4 := Pst.A (Q_HO4 (hon 1 (by kernel_rfl)))
    have HO7 := Pst.A (Q_HO7 (hon 1 (by kernel_rfl)))
    refine goes_ Tryz.func26 (by kernel_rfl) rfl #[.string (rdOf ByteArray.empty P 0)] (by rfl) rfl rfl (by first | (simp only [List.map_toArray, List.map_cons, List.map_nil, Act.eval, Array.getD_eq_getD_getElem?, Option.getD_some, e23]; done) | (simp only [List.map_toArray, List.map_cons, List.map_nil, Act.eval, Array.getD_eq_getD_getElem?, Option.getD_some, e23]; rfl)) ?_
    with_reducible refine (impl_atoi.calls (rdOf ByteArray.empty P 0) co _ A0.out (HT.out.on (below_step HB6.out HB.out))).mono ?_
    rintro e w2 ⟨rfl, hb⟩
    refine ⟨_, rfl, ?_⟩
    refine hK.out _ _ ⟨v3, v4, v7, g7, m1_, m15_, m16_, (by rw [ha.out]; exact putSel_upk 3 hb_ rfl rfl rfl), below_step HB.out hb, fun _ => Kd.R_below HO3.out hb, fun _ => Kd.R_below HO4.out hb, fun _ => Kd.R_below HO7.out hb, Q_GE7, fun h0_ h1_ => blk_below (Q_BK7 h0_ h1_) hb, fun h0_ => absurd ((hoff 17 (by kernel_rfl)).symm.trans h0_) (by decide), Q_X1_, fun h0_ => absurd ((hoff 15 (by kernel_rfl)).symm.trans h0_) (by decide), Q_X16_⟩
   refine steps_cons ?_ ?_
   ·rintro b a w' ⟨v3, v4, v7, g7, m1_, m15_, m16_, ha, Q_HB, Q_HO3, Q_HO4, Q_HO7, Q_GE7, Q_BK7, Q_BKF, Q_X1_, Q_X15_, Q_X16_⟩ hb_ hon hoff
    refine ⟨_, rfl, fun K hK => ?_⟩
    have e26 : a.tmps[26]? = some (.pointer (some ⟨gp, 2, none⟩)) := by rw [ha]; exact (putSel_off rfl).trans rfl
    replace ha := Pst.A ha
    have HB := Pst.A Q_HB
    have hs_ : w'.cell? ⟨gp, 2, none⟩ = some (.string (rdOf ByteArray.empty P 2)) := (blk_cell (blk_below BKp.out HB.out) 2).trans (HS.out 2 (by have := HPL.out; omega))
    refine value_ (w1 := w') (v := .string (rdOf ByteArray.empty P 2)) (by rfl) rfl ?_ ?_
    ·go_simp
     (try simp only [i64_w])
     try rfl
    refine hK.out _ _ ⟨v3, v4, v7, g7, m1_, m15_, m16_, (by rw [ha.out]; exact putSel_upk 4 hb_ rfl rfl rfl), HB.out, fun h0_ => (Q_HO3 h0_), fun h0_ => (Q_HO4 h0_), fun h0_ => (Q_HO7 h0_), Q_GE7, fun h0_ h1_ => (Q_BK7 h0_ h1_), fun h0_ => absurd ((hoff 17 (by kernel_rfl)).symm.trans h0_) (by decide), Q_X1_, fun h0_ => absurd ((hoff 15 (by kernel_rfl)).symm.trans h0_) (by decide), Q_X16_⟩
   refine steps_cons ?_ ?_
   ·rintro b a w' ⟨v3, v4, v7, g7, m1_, m15_, m16_, ha, Q_HB, Q_HO3, Q_HO4, Q_HO7, Q_GE7, Q_BK7, Q_BKF, Q_X1_, Q_X15_, Q_X16_⟩ hb_ hon hoff
    refine ⟨_, rfl, fun K hK => ?_⟩
    have e27 : a.tmps[27]? = some (.string (rdOf ByteArray.empty P 2)) := by rw [ha]; exact putSel_on (e := (8, 27, .string (rdOf ByteArray.empty P 2))) 4 rfl rfl (hon 8 (by kernel_rfl)) rfl
    replace ha := Pst.A ha
    have HB := Pst.A Q_HB
    have HO3 := Pst.A (Q_HO3 (hon 1 (by kernel_rfl)))
    have HO4 := Pst.A (Q_HO4 (hon 1 (by kernel_rfl)))
    have HO7 := Pst.A (Q_HO7 (hon 1 (by kernel_rfl)))
    refine goes_ Tryz.func26 (by kernel_rfl) rfl #[.string (rdOf ByteArray.empty P 2)] (by rfl) rfl rfl (by first | (simp only [List.map_toArray, List.map_cons, List.map_nil, Act.eval, Array.getD_eq_getD_getElem?, Option.getD_some, e27]; done) | (simp only [List.map_toArray, List.map_cons, List.map_nil, Act.eval, Array.getD_eq_getD_getElem?, Option.getD_some, e27]; rfl)) ?_
    with_reducible refine (impl_atoi.calls (rdOf ByteArray.empty P 2) wa _ A2.out (HT.out.on (below_step HB6.out HB.out))).mono ?_
    rintro e w2 ⟨rfl, hb⟩
    refine ⟨_, rfl, ?_⟩
    refine hK.out _ _ ⟨v3, v4, v7, g7, m1_, m15_, m16_, (by rw [ha.out]; exact putSel_upk 5 hb_ rfl rfl rfl), below_step HB.out hb, fun _ => Kd.R_below HO3.out hb, fun _ => Kd.R_below HO4.out hb, fun _ => Kd.R_below HO7.out hb, Q_GE7, fun h0_ h1_ => blk_below (Q_BK7 h0_ h1_) hb, fun h0_ => absurd ((hoff 17 (by kernel_rfl)).symm.trans h0_) (by decide), Q_X1_, fun h0_ => absurd ((hoff 15 (by kernel_rfl)).symm.trans h0_) (by decide), Q_X16_⟩
   refine steps_cons ?_ ?_
   ·rintro b a w' ⟨v3, v4, v7, g7, m1_, m15_, m16_, ha, Q_HB, Q_HO3, Q_HO4, Q_HO7, Q_GE7, Q_BK7, Q_BKF, Q_X1_, Q_X15_, Q_X16_⟩ hb_ hon hoff
    refine ⟨_, rfl, fun K hK => ?_⟩
    have e30 : a.tmps[30]? = some (.pointer (some ⟨gp, 4, none⟩)) := by rw [ha]; exact (putSel_off rfl).trans rfl
    replace ha := Pst.A ha
    have HB := Pst.A Q_HB
    have hs_ : w'.cell? ⟨gp, 4, none⟩ = some (.string (rdOf ByteArray.empty P 4)) := (blk_cell (blk_below BKp.out HB.out) 4).trans (HS.out 4 (by have := HPL.out; omega))
    refine value_ (w1 := w') (v := .string (rdOf ByteArray.empty P 4)) (by rfl) rfl ?_ ?_
    ·go_simp
     (try simp only [i64_w])
     try rfl
    refine hK.out _ _ ⟨v3, v4, v7, g7, m1_, m15_, m16_, (by rw [ha.out]; exact putSel_upk 6 hb_ rfl rfl rfl), HB.out, fun h0_ => (Q_HO3 h0_), fun h0_ => (Q_HO4 h0_), fun h0_ => (Q_HO7 h0_), Q_GE7, fun h0_ h1_ => (Q_BK7 h0_ h1_), fun h0_ => absurd ((hoff 17 (by kernel_rfl)).symm.trans h0_) (by decide), Q_X1_, fun h0_ => absurd ((hoff 15 (by kernel_rfl)).symm.trans h0_) (by decide), Q_X16_⟩
   refine steps_cons ?_ ?_
   ·rintro b a w' ⟨v3, v4, v7, g7, m1_, m15_, m16_, ha, Q_HB, Q_HO3, Q_HO4, Q_HO7, Q_GE7, Q_BK7, Q_BKF, Q_X1_, Q_X15_, Q_X16_⟩ hb_ hon hoff
    refine ⟨_, rfl, fun K hK => ?_⟩
    have e31 : a.tmps[31]? = some (.string (rdOf ByteArray.empty P 4)) := by rw [ha]; exact putSel_on (e := (12, 31, .string (rdOf ByteArray.empty P 4))) 6 rfl rfl (hon 12 (by kernel_rfl)) rfl
    replace ha := Pst.A ha
    have HB := Pst.A Q_HB
    have HO3 := Pst.A (Q_HO3 (hon 1 (by kernel_rfl)))
    have HO4 := Pst.A (Q_HO4 (hon 1 (by kernel_rfl)))
    have HO7 := Pst.A (Q_HO7 (hon 1 (by kernel_rfl)))
    refine goes_ Tryz.func27 (by kernel_rfl) rfl #[.string (rdOf ByteArray.empty P 4), .string (⟨#[58]⟩ : ByteArray)] (by rfl) rfl rfl (by first | (simp only [List.map_toArray, List.map_cons, List.map_nil, Act.eval, Array.getD_eq_getD_getElem?, Option.getD_some, e31]; done) | (simp only [List.map_toArray, List.map_cons, List.map_nil, Act.eval, Array.getD_eq_getD_getElem?, Option.getD_some, e31]; rfl)) ?_
    with_reducible refine (strings_TrimSuffix.calls (rdOf ByteArray.empty P 4) (⟨#[58]⟩ : ByteArray) y _ AY.out).mono ?_
    rintro e w2 ⟨rfl, hb⟩
    refine ⟨_, rfl, ?_⟩
    refine hK.out _ _ ⟨v3, v4, v7, g7, m1_, m15_, m16_, (by rw [ha.out]; exact putSel_upk 7 hb_ rfl rfl rfl), below_step HB.out hb, fun _ => Kd.R_below HO3.out hb, fun _ => Kd.R_below HO4.out hb, fun _ => Kd.R_below HO7.out hb, Q_GE7, fun h0_ h1_ => blk_below (Q_BK7 h0_ h1_) hb, fun h0_ => absurd ((hoff 17 (by kernel_rfl)).symm.trans h0_) (by decide), Q_X1_, fun h0_ => absurd ((hoff 15 (by kernel_rfl)).symm.trans h0_) (by decide), Q_X16_⟩
   refine steps_cons ?_ ?_
   ·rintro b a w' ⟨v3, v4, v7, g7, m1_, m15_, m16_, ha, Q_HB, Q_HO3, Q_HO4, Q_HO7, Q_GE7, Q_BK7, Q_BKF, Q_X1_, Q_X15_, Q_X16_⟩ hb_ hon hoff
    refine ⟨_, rfl, fun K hK => ?_⟩
    have e32 : a.tmps[32]? = some (.string y) := by rw [ha]; exact putSel_on (e := (13, 32, .string y)) 7 rfl rfl (hon 13 (by kernel_rfl)) rfl
    replace ha := Pst.A ha
    have HB := Pst.A Q_HB
    have HO3 := Pst.A (Q_HO3 (hon 1 (by kernel_rfl)))
    have HO4 := Pst.A (Q_HO4 (hon 1 (by kernel_rfl)))
    have HO7 := Pst.A (Q_HO7 (hon 1 (by kernel_rfl)))
    refine goes_ Tryz.func26 (by kernel_rfl) rfl #[.string y] (by rfl) rfl rfl (by first | (simp only [List.map_toArray, List.map_cons, List.map_nil, Act.eval, Array.getD_eq_getD_getElem?, Option.getD_some, e32]; done) | (simp only [List.map_toArray, List.map_cons, List.map_nil, Act.eval, Array.getD_eq_getD_getElem?, Option.getD_some, e32]; rfl)) ?_
    with_reducible refine (impl_atoi.calls y st _ AS.out (HT.out.on (below_step HB6.out HB.out))).mono ?_
    rintro e w2 ⟨rfl, hb⟩
    refine ⟨_, rfl, ?_⟩
    refine hK.out _ _ ⟨v3, v4, v7, g7, m1_, m15_, m16_, (by rw [ha.out]; exact putSel_upk 8 hb_ rfl rfl rfl), below_step HB.out hb, fun _ => Kd.R_below HO3.out hb, fun _ => Kd.R_below HO4.out hb, fun _ => Kd.R_below HO7.out hb, Q_GE7, fun h0_ h1_ => blk_below (Q_BK7 h0_ h1_) hb, fun h0_ => absurd ((hoff 17 (by kernel_rfl)).symm.trans h0_) (by decide), Q_X1_, fun h0_ => absurd ((hoff 15 (by kernel_rfl)).symm.trans h0_) (by decide), Q_X16_⟩
   refine steps_cons ?_ ?_
   ·rintro b a w' ⟨v3, v4, v7, g7, m1_, m15_, m16_, ha, Q_HB, Q_HO3, Q_HO4, Q_HO7, Q_GE7, Q_BK7, Q_BKF, Q_X1_, Q_X15_, Q_X16_⟩ hb_ hon hoff
    refine ⟨_, rfl, fun K hK => ?_⟩
    have e20 : a.tmps[20]? = some (m1_) := by rw [ha]; exact putSel_on (e := (1, 20, m1_)) 1 rfl rfl (hon 1 (by kernel_rfl)) rfl
    rw [Q_X1_ (hon 1 (by kernel_rfl))] at e20
    have e24 : a.tmps[24]? = some (.int .i64 co) := by rw [ha]; exact putSel_on (e := (5, 24, .int .i64 co)) 3 rfl rfl (hon 5 (by kernel_rfl)) rfl
    have e28 : a.tmps[28]? = some (.int .i64 wa) := by rw [ha]; exact putSel_on (e := (9, 28, .int .i64 wa)) 5 rfl rfl (hon 9 (by kernel_rfl)) rfl
    have e33 : a.tmps[33]? = some (.int .i64 st) := by rw [ha]; exact putSel_on (e := (14, 33, .int .i64 st)) 8 rfl rfl (hon 14 (by kernel_rfl)) rfl
    replace ha := Pst.A ha
    have HB := Pst.A Q_HB
    have HO3 := Pst.A (Q_HO3 (hon 1 (by kernel_rfl)))
    have HO4 := Pst.A (Q_HO4 (hon 1 (by kernel_rfl)))
    have HO7 := Pst.A (Q_HO7 (hon 1 (by kernel_rfl)))
    refine value_ (w1 := w') (v := .agg #[.int .i64 s1, .int .i64 s2, .int .i64 s3, v3, v4, .int .i64 s6, .int .i64 s7, v7, .int .i64 s9, .int .i64 s10, .int .i64 s11, .int .i64 s12, .slice none 0 0, .int .i64 wa, .int .i64 st, .int .i64 co]) (by rfl) rfl ?_ ?_
    ·go_simp
     (try simp only [i64_w])
     try rfl
    refine hK.out _ _ ⟨v3, v4, v7, g7, m1_, (.agg #[.int .i64 s1, .int .i64 s2, .int .i64 s3, v3, v4, .int .i64 s6, .int .i64 s7, v7, .int .i64 s9, .int .i64 s10, .int .i64 s11, .int .i64 s12, .slice none 0 0, .int .i64 wa, .int .i64 st, .int .i64 co]), m16_, (by rw [ha.out]; exact putSel_upk 9 hb_ rfl rfl rfl), HB.out, fun _ => HO3.out, fun _ => HO4.out, fun _ => HO7.out, Q_GE7, fun h0_ h1_ => (Q_BK7 h0_ h1_), fun h0_ => absurd ((hoff 17 (by kernel_rfl)).symm.trans h0_) (by decide), Q_X1_, fun _ => rfl, Q_X16_⟩
   refine steps_cons ?_ ?_
   ·rintro b a w' ⟨v3, v4, v7, g7, m1_, m15_, m16_, ha, Q_HB, Q_HO3, Q_HO4, Q_HO7, Q_GE7, Q_BK7, Q_BKF, Q_X1_, Q_X15_, Q_X16_⟩ hb_ hon hoff
    refine ⟨_, rfl, fun K hK => ?_⟩
    replace ha := Pst.A ha
    have HB := Pst.A Q_HB
    refine value_ (w1 := w'.alloc (.cells #[.int .i64 0, .int .i64 0, .int .i64 0, .slice none 0 0, .slice none 0 0, .int .i64 0, .int .i64 0, .slice none 0 0, .int .i64 0, .int .i64 0, .int .i64 0, .int .i64 0, .slice none 0 0, .int .i64 0, .int .i64 0, .int .i64 0] 44 (0, 0))) (v := .pointer (some ⟨w'.heap.size, 0, none⟩)) (by rfl) rfl (by first | (go_simp; done) | (go_simp; rfl)) ?_
    refine hK.out _ _ ⟨v3, v4, v7, w'.heap.size, m1_, m15_, (.pointer (some ⟨w'.heap.size, 0, none⟩)), (by rw [ha.out]; exact putSel_upk 10 hb_ rfl rfl rfl), below_alloc HB.out _, fun h0_ => Kd.R_below (Q_HO3 h0_) (below_alloc (Below.refl _ _) _), fun h0_ => Kd.R_below (Q_HO4 h0_) (below_alloc (Below.refl _ _) _), fun h0_ => Kd.R_below (Q_HO7 h0_) (below_alloc (Below.refl _ _) _), fun _ => HB.out.size, fun _ _ => blk_new w' _, fun h0_ => absurd ((hoff 17 (by kernel_rfl)).symm.trans h0_) (by decide), Q_X1_, Q_X15_, fun _ => rfl⟩
   refine steps_cons ?_ ?_
   ·rintro b a w' ⟨v3, v4, v7, g7, m1_, m15_, m16_, ha, Q_HB, Q_HO3, Q_HO4, Q_HO7, Q_GE7, Q_BK7, Q_BKF, Q_X1_, Q_X15_, Q_X16_⟩ hb_ hon hoff
    refine ⟨_, rfl, fun K hK => ?_⟩
    have e7 : a.tmps[7]? = some (m16_) := by rw [ha]; exact putSel_on (e := (16, 7, m16_)) 10 rfl rfl (hon 16 (by kernel_rfl)) rfl
    rw [Q_X16_ (hon 16 (by kernel_rfl))] at e7
    have e34 : a.tmps[34]? = some (m15_) := by rw [ha]; exact putSel_on (e := (15, 34, m15_)) 9 rfl rfl (hon 15 (by kernel_rfl)) rfl
    rw [Q_X15_ (hon 15 (by kernel_rfl))] at e34
    replace ha := Pst.A ha
    have HB := Pst.A Q_HB
    have HO3 := Pst.A (Q_HO3 (hon 1 (by kernel_rfl)))
    have HO4 := Pst.A (Q_HO4 (hon 1 (by kernel_rfl)))
    have HO7 := Pst.A (Q_HO7 (hon 1 (by kernel_rfl)))
    have GE7 := Pst.A (Q_GE7 (hon 16 (by kernel_rfl)))
    have BK7 := Pst.A (Q_BK7 (hon 16 (by kernel_rfl)) hb_)
    refine storeStep (by rfl) rfl 44 (.tmp 7) (.tmp 34) rfl g7 #[.int .i64 s1, .int .i64 s2, .int .i64 s3, v3, v4, .int .i64 s6, .int .i64 s7, v7, .int .i64 s9, .int .i64 s10, .int .i64 s11, .int .i64 s12, .slice none 0 0, .int .i64 wa, .int .i64 st, .int .i64 co] (by simp only [Act.eval, Array.getD_eq_getD_getElem?, e7, Option.getD_some]) (by simp only [Act.eval, Array.getD_eq_getD_getElem?, e34, Option.getD_some]) 44 #[.int .i64 0, .int .i64 0, .int .i64 0, .slice none 0 0, .slice none 0 0, .int .i64 0, .int .i64 0, .slice none 0 0, .int .i64 0, .int .i64 0, .int .i64 0, .int .i64 0, .slice none 0 0, .int .i64 0, .int .i64 0, .int .i64 0] BK7.out (by kernel_rfl) rfl (by simp [R_oneCell HO3.out, R_oneCell HO4.out, R_oneCell HO7.out, oneInt, oneSlice]) ?_
    intro w2 hbs hgs
    refine hK.out _ _ ⟨v3, v4, v7, g7, m1_, m15_, m16_, (by rw [ha.out]; exact putSel_none (v := undef) rfl), pw_below_grown HB.out (some g7) HB.out.size hgs (fun k_ hk_ => by cases hk_; exact GE7.out), fun _ => Kd.R_mono (Kd.R_kept (Kd.R_types HO3.out BK7.out (by decide)) (S := fun k => k = g7) ⟨hgs.size, fun i hi hn => hgs.block i hi (fun he => hn (Option.some.inj he))⟩ (fun _ hk => hk.2)) (fun _ hk => hk.1), fun _ => Kd.R_mono (Kd.R_kept (Kd.R_types HO4.out BK7.out (by decide)) (S := fun k => k = g7) ⟨hgs.size, fun i hi hn => hgs.block i hi (fun he => hn (Option.some.inj he))⟩ (fun _ hk => hk.2)) (fun _ hk => hk.1), fun _ => Kd.R_mono (Kd.R_kept (Kd.R_types HO7.out BK7.out (by decide)) (S := fun k => k = g7) ⟨hgs.size, fun i hi hn => hgs.block i hi (fun he => hn (Option.some.inj he))⟩ (fun _ hk => hk.2)) (fun _ hk => hk.1), Q_GE7, fun _ h1_ => absurd ((up_self b 17).symm.trans h1_) (by decide), fun _ => hbs, Q_X1_, Q_X15_, Q_X16_⟩
   exact steps_nil
  rintro b a w7 hall ⟨v3, v4, v7, g7, m1_, m15_, m16_, ha, Q_HB, Q_HO3, Q_HO4, Q_HO7, Q_GE7, Q_BK7, Q_BKF, Q_X1_, Q_X15_, Q_X16_⟩
  clear HB
  have hb0_ := hall 0 (by kernel_rfl)
  have hb1_ := hall 1 (by kernel_rfl)
  have hb4_ := hall 4 (by kernel_rfl)
  have hb5_ := hall 5 (by kernel_rfl)
  have hb8_ := hall 8 (by kernel_rfl)
  have hb9_ := hall 9 (by kernel_rfl)
  have hb12_ := hall 12 (by kernel_rfl)
  have hb13_ := hall 13 (by kernel_rfl)
  have hb14_ := hall 14 (by kernel_rfl)
  have hb15_ := hall 15 (by kernel_rfl)
  have hb16_ := hall 16 (by kernel_rfl)
  have hb17_ := hall 17 (by kernel_rfl)
  subst ha
  obtain rfl := Q_X1_ hb1_
  obtain rfl := Q_X15_ hb15_
  obtain rfl := Q_X16_ hb16_
  simp only [putSel, hb0_, hb1_, hb4_, hb5_, hb8_, hb9_, hb12_, hb13_, hb14_, hb15_, hb16_, hb17_, if_true, Act.put, List.setIfInBounds_toArray, List.set_cons_zero, List.set_cons_succ]
  have HB := Pst.A Q_HB
  clear Q_HB
  have HO3 := Pst.A (Q_HO3 hb1_)
  clear Q_HO3
  have HO4 := Pst.A (Q_HO4 hb1_)
  clear Q_HO4
  have HO7 := Pst.A (Q_HO7 hb1_)
  clear Q_HO7
  have GE7 := Pst.A (Q_GE7 hb16_)
  clear Q_GE7 Q_BK7
  have BKF := Pst.A (Q_BKF hb17_)
  clear Q_BKF hall hb0_ hb1_ hb4_ hb5_ hb8_ hb9_ hb12_ hb13_ hb14_ hb15_ hb16_ hb17_
  obtain ⟨A3, c3, e3_⟩ := Kd.R_slice HO3.out
  obtain ⟨A4, c4, e4_⟩ := Kd.R_slice HO4.out
  obtain ⟨A7, c7, e7_⟩ := Kd.R_slice HO7.out
  subst e3_
  subst e4_
  subst e7_
  have HBr := HB
  have HB := Pst.A (below_step HB6.out HBr.out)
  have NE4 := Pst.A (show ¬ g4 = g7 from fun e_ => by have h1_ := GE7.out; have h2_ := blk_lt BK4.out; omega)
  have NEp := Pst.A (show ¬ gp = g7 from fun e_ => by have h1_ := GE7.out; have h2_ := blk_lt BKp.out; omega)
  have GE4 := Pst.A (show w.heap.size ≤ g4 from GEg4.out)
  clear hHeld HT_ HW_ BK3 hi0 hi2 hi4 GEg3
  have h56 : 5 ≤ P.length := by have := HPL.out; omega
  have h65 : ¬ c6 = 5 := by have := HPL.out; omega
  have hcm2 : c6 ≤ 9223372036854775807 := by have : maxLen = 9223372036854775807 := rfl; omega
  clear hcm
  go_wp2
  go_loopg [38] (P.length - 5) (fun gg v38 wr => ∃ (ii : Nat) (acc : List Int) (v12 : Value), v38 = .int .i64 ii ∧ P.length - 5 - ii ≤ gg ∧ ii ≤ P.length - 5 ∧ Aside0 (impl_ParseWorld.l0 k (P.drop (5 + ii)) acc = some oL) ∧ Aside0 (acc.length ≤ ii) ∧ Aside0 (Below w.heap.size w wr) ∧ Aside0 (Kept w7 wr (fun k => k = g7)) ∧ Aside0 (wr.heap[g7]? = some (.cells #[.int .i64 s1, .int .i64 s2, .int .i64 s3, .slice A3 s4.length c3, .slice A4 s5.length c4, .int .i64 s6, .int .i64 s7, .slice A7 s8.length c7, .int .i64 s9, .int .i64 s10, .int .i64 s11, .int .i64 s12, v12, .int .i64 wa, .int .i64 st, .int .i64 co] 44 (0, 0))) ∧ Aside0 (Kd.R (Kd.int .i64) 3 wr w.heap.size (fun k => w7.heap.size ≤ k) v12 acc))
  case atStart => exact ⟨0, [], .slice none 0 0, rfl, by omega, by omega, AL, ⟨Nat.le_refl _⟩, HB, ⟨Kept.refl _ _⟩, BKF, ⟨Kd.R_nil _ _ _ _ _⟩⟩
  clear HB
  obtain ⟨ii, acc, v12, rfl, hgg, hii, AH, HAC, HB, AK, BK, HL⟩ := hrel
  by_cases hlt : ii < P.length - 5
  ·have hd : P.drop (5 + ii) = rdOf ByteArray.empty P ((5 + ii : Nat) : Int) :: P.drop (5 + (ii + 1)) := dropRd P (5 + ii) (by omega)
   have AH2 := AH.out
   rw [hd, show ((5 + ii : Nat) : Int) = 5 + (ii : Int) from by omega] at AH2
   obtain ⟨⟨ld, ok⟩, Am, AH3⟩ := Option.bind_eq_some_iff.1 AH2
   replace Am := Pst.A Am
   clear hd AH AH2
   have hcs := (blk_cell (blk_kept (blk_below BKp.out HBr.out) AK.out NEp.out) (5 + ii)).trans (HS.out (5 + ii) (by omega))
   rw [show ((5 + ii : Nat) : Int) = 5 + (ii : Int) from by omega] at hcs
   have hlb : decide (ii < P.length - 5) = true := decide_eq_true hlt
   cases ok with
   | false =>
    obtain rfl : none = oL := by simpa using AH3
    clear AH3
    have H1 := H.out
    obtain ⟨rfl, rfl, rfl, rfl, rfl, rfl, rfl, rfl, rfl, rfl, rfl, rfl, rfl, rfl, rfl, rfl, rfl⟩ := noWorldIs H1
    clear H H1
    go_wp2_with (first
     | (go_at_call 28; refine (impl_ParseMilli.calls k (rdOf ByteArray.empty P (5 + (ii : Int))) ld _ _ Am.out (HT.out.on Pst.bel)).mono ?_; rintro e w9 ⟨rfl, hb⟩; have m0_ := Pst.A (below_step Pst.bel hb); have m1_ := Pst.A ((AK.out).below hb); have m2_ := Pst.A (blk_below BK.out hb); have m3_ := Pst.A (Kd.R_below HL.out hb); clear HB AK BK HL; have HB := m0_; have AK := m1_; have BK := m2_; have HL := m3_; clear m0_ m1_ m2_ m3_ hb)
     | ((with_reducible refine gate_ (.store 44 (.tmp 4) (.tmp 49)) rfl ?_); refine storeAll rfl 44 (.tmp 4) (.tmp 49) rfl g4 #[.int .i64 0, .int .i64 0, .int .i64 0, .slice none 0 0, .slice none 0 0, .int .i64 0, .int .i64 0, .slice none 0 0, .int .i64 0, .int .i64 0, .int .i64 0, .int .i64 0, .slice none 0 0, .int .i64 0, .int .i64 0, .int .i64 0] rfl rfl 44 #[.int .i64 0, .int .i64 0, .int .i64 0, .slice none 0 0, .slice none 0 0, .int .i64 0, .int .i64 0, .slice none 0 0, .int .i64 0, .int .i64 0, .int .i64 0, .int .i64 0, .slice none 0 0, .int .i64 0, .int .i64 0, .int .i64 0] ?hb (by kernel_rfl) rfl (by simp [Value.oneCell']) ?_; (case hb => exact (blk_kept (blk_below BK4.out HBr.out) AK.out NE4.out)); intro ws hbs hgs; have n_ := Pst.A (pw_below_grown Pst.bel (some g4) (below_size Pst.bel) hgs (fun k_ hk_ => by cases hk_; exact GEg4.out)); clear HB; have HB := n_; clear n_; have BKz := Pst.A hbs; clear hbs hgs))
    refine bodyPost_ret (results_ct rfl _ _ g4 44 #[.int .i64 0, .int .i64 0, .int .i64 0, .slice none 0 0, .slice none 0 0, .int .i64 0, .int .i64 0, .slice none 0 0, .int .i64 0, .int .i64 0, .int .i64 0, .int .i64 0, .slice none 0 0, .int .i64 0, .int .i64 0, .int .i64 0] (0, 0) _ rfl BKz.out Tryz.underlying44 rfl (by kernel_rfl)) rfl ?_
    exact ⟨_, _, _, _, rfl, Kd.R_nil _ _ _ _ _, Kd.R_nil _ _ _ _ _, Kd.R_nil _ _ _ _ _, Kd.R_nil _ _ _ _ _, Pst.bel⟩
   | true =>
    have AH4 : impl_ParseWorld.l0 k (P.drop (5 + (ii + 1))) (acc ++ [ld]) = some oL := AH3
    clear AH3
    obtain ⟨acc2, hy⟩ : ∃ y_ : List Int, y_ = acc ++ [ld] := ⟨_, rfl⟩
    rw [← hy] at AH4
    have AH := Pst.A AH4
    have HAC2 := Pst.A (show acc2.length ≤ ii + 1 from by have := HAC.out; rw [hy, List.length_append, List.length_singleton]; omega)
    have HY := Pst.A hy
    clear hy AH4
    go_wp2_with (first
     | (go_at_call 28; refine (impl_ParseMilli.calls k (rdOf ByteArray.empty P (5 + (ii : Int))) ld _ _ Am.out (HT.out.on Pst.bel)).mono ?_; rintro e w9 ⟨rfl, hb⟩; have m0_ := Pst.A (below_step Pst.bel hb); have m1_ := Pst.A ((AK.out).below hb); have m2_ := Pst.A (blk_below BK.out hb); have m3_ := Pst.A (Kd.R_below HL.out hb); clear HB AK BK HL; have HB := m0_; have AK := m1_; have BK := m2_; have HL := m3_; clear m0_ m1_ m2_ m3_ hb; have hc12 : w9.cell? ⟨g7, 12, none⟩ = some v12 := (blk_cell BK.out 12).trans rfl)
     | ((with_reducible refine gate_builtin (b := .append) (xs := #[.tmp 51, .tmp 53]) rfl ?_); at_builtin; refine Kd.R_append (Kd.int .i64) (w0 := w) w.heap.size rfl (.tmp 51) (.tmp 53) 42 3 (.int .i64 0) 8 rfl Tryz.underlying42 infoInt rfl (by decide) (by omega) v12 acc ld [.int .i64 ld] (fun k => w7.heap.size ≤ k) (fun _ => False) rfl rfl ?aP (fun _ hk => hk.elim) ?aF ?aO ?aB ?aS ?aL ?_; (case aP => exact rfl); (case aB => exact Pst.bel); (case aF => exact (fun _ h_ => Nat.le_trans AK.out.1 h_)); (case aO => exact (Pst.qr HL.out)); (case aS => exact (below_size Pst.bel)); (case aL => have := HAC.out; have := HPL.out; omega); intro v13 w11 ho hb hg hat; rw [← HY.out] at ho; obtain ⟨A13, c13, e13⟩ := Kd.R_slice ho; subst e13; have hne : some g7 ≠ v12.ownBlock := fun e_ => (by have h1_ := HL.out.1 g7 e_.symm; have h2_ := blk_lt BKF.out; omega); have m0_ := Pst.A hb; have m1_ := Pst.A (Kept.of_grown hg (AK.out) (fun q_ h_ => .inr (HL.out.1 q_ h_))); have m2_ := Pst.A (blk_grown BK.out hg hne); have m3_ := Pst.A ho; clear HB AK BK HL ho hb hg hat hne; have HB := m0_; have AK := m1_; have BK := m2_; have HL := m3_; clear m0_ m1_ m2_ m3_; have hc13 : w11.cell? ⟨g7, 12, none⟩ = some v12 := (blk_cell BK.out 12).trans rfl; have hf13 : w11.frozen? ⟨g7, 12, none⟩ = false := blk_frozen BK.out 12))
    have q1_ := Pst.A (below_set (j := 12) (v := .slice A13 acc2.length c13) HB.out (show w.heap.size ≤ g7 from Nat.le_trans HB6.out.size GE7.out))
    have q2_ := Pst.A (AK.out.setCell (p := ⟨g7, 12, none⟩) (.inl rfl) (.slice A13 acc2.length c13))
    have q3_ := Pst.A (blk_set BK.out 12 (.slice A13 acc2.length c13))
    have q4_ := Pst.A (Kd.R_far (p := ⟨g7, 12, none⟩) HL.out (fun k_ h_ e_ => by have h1_ : k_ = g7 := e_; have h2_ := blk_lt BKF.out; omega) (.slice A13 acc2.length c13))
    go_roundg (P.length - 5 - (ii + 1))
    case measure => omega
    case rel => exact ⟨ii + 1, acc2, .slice A13 acc2.length c13, by first | rfl | go_num, by omega, by omega, AH, HAC2, q1_, q2_, q3_, q4_⟩
  obtain rfl : ii = P.length - 5 := by omega
  have hd : P.drop (5 + (P.length - 5)) = [] := by rw [show 5 + (P.length - 5) = P.length by omega, List.drop_length]
  have AH2 := AH.out
  rw [hd] at AH2
  obtain rfl : some acc = oL := by simpa [impl_ParseWorld.l0] using AH2
  clear hd AH AH2 hlt hii hgg
  have H1 := H.out
  obtain ⟨okw, AW, H2⟩ := Option.bind_eq_some_iff.1 H1
  replace AW := Pst.A AW
  clear H H1
  obtain ⟨A12, c12, e12⟩ := Kd.R_slice HL.out
  subst e12
  cases okw with
  | false =>
   obtain ⟨rfl, rfl, rfl, rfl, rfl, rfl, rfl, rfl, rfl, rfl, rfl, rfl, rfl, rfl, rfl, rfl, rfl⟩ := noWorldIs (by simpa using H2)
   clear H2
   go_wp2_with (first
    | ((with_reducible refine gate_ (.load 44 (.tmp 7)) rfl ?_); (try (refine gate_guard (by rfl) ?_; dsimp only)); refine wpList_load_row rfl 44 (.tmp 7) rfl g7 rfl 44 _ _ _ (Pst.qb BK.out) Tryz.underlying44 rfl (by kernel_rfl) ?_)
    | (go_at_call 29; refine (impl_WorldOk.calls k s1 s2 s3 A3 c3 s4 A4 c4 s5 s6 s7 A7 c7 s8 s9 s10 s11 s12 A12 c12 acc wa st co _ _ (Kd.R_reads' (Kd.R_kept (Kd.R_types HO3.out BKF.out (by decide)) (by exact AK.out) (fun _ hk => hk.2))).2.2 (Kd.R_reads' (Kd.R_kept (Kd.R_types HO3.out BKF.out (by decide)) (by exact AK.out) (fun _ hk => hk.2))).2.1 (Kd.R_reads' (Kd.R_kept (Kd.R_types HO4.out BKF.out (by decide)) (by exact AK.out) (fun _ hk => hk.2))).2.2 (Kd.R_reads' (Kd.R_kept (Kd.R_types HO4.out BKF.out (by decide)) (by exact AK.out) (fun _ hk => hk.2))).2.1 (Kd.R_reads' (Kd.R_kept (Kd.R_types HO7.out BKF.out (by decide)) (by exact AK.out) (fun _ hk => hk.2))).2.2 (Kd.R_reads' (Kd.R_kept (Kd.R_types HO7.out BKF.out (by decide)) (by exact AK.out) (fun _ hk => hk.2))).2.1 (Pst.qc (Kd.R_reads' HL.out).2.2) (Kd.R_reads' HL.out).2.1 AW.out).mono ?_; rintro e w12 ⟨rfl, hb⟩; have m0_ := Pst.A (below_step Pst.bel hb); have m1_ := Pst.A ((AK.out).below hb); have m2_ := Pst.A (blk_below BK.out hb); have m3_ := Pst.A (Kd.R_below HL.out hb); clear HB AK BK HL; have HB := m0_; have AK := m1_; have BK := m2_; have HL := m3_; clear m0_ m1_ m2_ m3_ hb)
    | ((with_reducible refine gate_ (.store 44 (.tmp 4) (.tmp 66)) rfl ?_); refine storeAll rfl 44 (.tmp 4) (.tmp 66) rfl g4 #[.int .i64 0, .int .i64 0, .int .i64 0, .slice none 0 0, .slice none 0 0, .int .i64 0, .int .i64 0, .slice none 0 0, .int .i64 0, .int .i64 0, .int .i64 0, .int .i64 0, .slice none 0 0, .int .i64 0, .int .i64 0, .int .i64 0] rfl rfl 44 #[.int .i64 0, .int .i64 0, .int .i64 0, .slice none 0 0, .slice none 0 0, .int .i64 0, .int .i64 0, .slice none 0 0, .int .i64 0, .int .i64 0, .int .i64 0, .int .i64 0, .slice none 0 0, .int .i64 0, .int .i64 0, .int .i64 0] ?hb (by kernel_rfl) rfl (by simp [Value.oneCell']) ?_; (case hb => exact (blk_kept (blk_below BK4.out HBr.out) AK.out NE4.out)); intro ws hbs hgs; have n_ := Pst.A (pw_below_grown Pst.bel (some g4) (below_size Pst.bel) hgs (fun k_ hk_ => by cases hk_; exact GEg4.out)); clear HB; have HB := n_; clear n_; have BKz := Pst.A hbs; clear hbs hgs))
   refine bodyPost_ret (results_ct rfl _ _ g4 44 #[.int .i64 0, .int .i64 0, .int .i64 0, .slice none 0 0, .slice none 0 0, .int .i64 0, .int .i64 0, .slice none 0 0, .int .i64 0, .int .i64 0, .int .i64 0, .int .i64 0, .slice none 0 0, .int .i64 0, .int .i64 0, .int .i64 0] (0, 0) _ rfl BKz.out Tryz.underlying44 rfl (by kernel_rfl)) rfl ?_
   exact ⟨_, _, _, _, rfl, Kd.R_nil _ _ _ _ _, Kd.R_nil _ _ _ _ _, Kd.R_nil _ _ _ _ _, Kd.R_nil _ _ _ _ _, Pst.bel⟩
  | true =>
   obtain ⟨t, AT, H3⟩ := Option.bind_eq_some_iff.1 H2
   replace AT := Pst.A AT
   clear H2
   by_cases ht : t.toList = a0.toList
   ·have hmb : (t.toList != a0.toList) = false := by simpa using ht
    have hmb2 : (t.toList == a0.toList) = true := by simpa using hmb
    have hmb3 : (!t.toList == a0.toList) = false := by rw [hmb2]; rfl
    rw [if_pos ht] at H3
    simp only [Option.some.injEq, Prod.mk.injEq] at H3
    obtain ⟨rfl, rfl, rfl, rfl, rfl, rfl, rfl, rfl, rfl, rfl, rfl, rfl, rfl, rfl, rfl, rfl, rfl⟩ := H3
    clear ht
    go_wp2_with (first
     | ((with_reducible refine gate_ (.load 44 (.tmp 7)) rfl ?_); (try (refine gate_guard (by rfl) ?_; dsimp only)); refine wpList_load_row rfl 44 (.tmp 7) rfl g7 rfl 44 _ _ _ (Pst.qb BK.out) Tryz.underlying44 rfl (by kernel_rfl) ?_)
     | (go_at_call 29; refine (impl_WorldOk.calls k s1 s2 s3 A3 c3 s4 A4 c4 s5 s6 s7 A7 c7 s8 s9 s10 s11 s12 A12 c12 acc wa st co _ _ (Kd.R_reads' (Kd.R_kept (Kd.R_types HO3.out BKF.out (by decide)) (by exact AK.out) (fun _ hk => hk.2))).2.2 (Kd.R_reads' (Kd.R_kept (Kd.R_types HO3.out BKF.out (by decide)) (by exact AK.out) (fun _ hk => hk.2))).2.1 (Kd.R_reads' (Kd.R_kept (Kd.R_types HO4.out BKF.out (by decide)) (by exact AK.out) (fun _ hk => hk.2))).2.2 (Kd.R_reads' (Kd.R_kept (Kd.R_types HO4.out BKF.out (by decide)) (by exact AK.out) (fun _ hk => hk.2))).2.1 (Kd.R_reads' (Kd.R_kept (Kd.R_types HO7.out BKF.out (by decide)) (by exact AK.out) (fun _ hk => hk.2))).2.2 (Kd.R_reads' (Kd.R_kept (Kd.R_types HO7.out BKF.out (by decide)) (by exact AK.out) (fun _ hk => hk.2))).2.1 (Pst.qc (Kd.R_reads' HL.out).2.2) (Kd.R_reads' HL.out).2.1 AW.out).mono ?_; rintro e w12 ⟨rfl, hb⟩; have m0_ := Pst.A (below_step Pst.bel hb); have m1_ := Pst.A ((AK.out).below hb); have m2_ := Pst.A (blk_below BK.out hb); have m3_ := Pst.A (Kd.R_below HL.out hb); clear HB AK BK HL; have HB := m0_; have AK := m1_; have BK := m2_; have HL := m3_; clear m0_ m1_ m2_ m3_ hb)
     | (go_at_call 30; refine (impl_WorldText.calls k s1 s2 s3 A3 c3 s4 A4 c4 s5 s6 s7 A7 c7 s8 s9 s10 s11 s12 A12 c12 acc wa st co t _ (Kd.R_reads' (Kd.R_kept (Kd.R_types HO3.out BKF.out (by decide)) (by exact AK.out) (fun _ hk => hk.2))).2.2 (Kd.R_reads' (Kd.R_kept (Kd.R_types HO3.out BKF.out (by decide)) (by exact AK.out) (fun _ hk => hk.2))).2.1 (Kd.R_reads' (Kd.R_kept (Kd.R_types HO4.out BKF.out (by decide)) (by exact AK.out) (fun _ hk => hk.2))).2.2 (Kd.R_reads' (Kd.R_kept (Kd.R_types HO4.out BKF.out (by decide)) (by exact AK.out) (fun _ hk => hk.2))).2.1 (Kd.R_reads' (Kd.R_kept (Kd.R_types HO7.out BKF.out (by decide)) (by exact AK.out) (fun _ hk => hk.2))).2.2 (Kd.R_reads' (Kd.R_kept (Kd.R_types HO7.out BKF.out (by decide)) (by exact AK.out) (fun _ hk => hk.2))).2.1 (Pst.qc (Kd.R_reads' HL.out).2.2) (Kd.R_reads' HL.out).2.1 AT.out (HT.out.on Pst.bel)).mono ?_; rintro e w13 ⟨rfl, hb⟩; have m0_ := Pst.A (below_step Pst.bel hb); have m1_ := Pst.A ((AK.out).below hb); have m2_ := Pst.A (blk_below BK.out hb); have m3_ := Pst.A (Kd.R_below HL.out hb); clear HB AK BK HL; have HB := m0_; have AK := m1_; have BK := m2_; have HL := m3_; clear m0_ m1_ m2_ m3_ hb)
     | ((with_reducible refine gate_ (.store 44 (.tmp 4) (.tmp 67)) rfl ?_); refine storeAll rfl 44 (.tmp 4) (.tmp 67) rfl g4 #[.int .i64 s1, .int .i64 s2, .int .i64 s3, .slice A3 s4.length c3, .slice A4 s5.length c4, .int .i64 s6, .int .i64 s7, .slice A7 s8.length c7, .int .i64 s9, .int .i64 s10, .int .i64 s11, .int .i64 s12, .slice A12 acc.length c12, .int .i64 wa, .int .i64 st, .int .i64 co] rfl rfl 44 #[.int .i64 0, .int .i64 0, .int .i64 0, .slice none 0 0, .slice none 0 0, .int .i64 0, .int .i64 0, .slice none 0 0, .int .i64 0, .int .i64 0, .int .i64 0, .int .i64 0, .slice none 0 0, .int .i64 0, .int .i64 0, .int .i64 0] ?hb (by kernel_rfl) rfl (by simp [Value.oneCell']) ?_; (case hb => exact (blk_kept (blk_below BK4.out HBr.out) AK.out NE4.out)); intro ws hbs hgs; have n_ := Pst.A (pw_below_grown Pst.bel (some g4) (below_size Pst.bel) hgs (fun k_ hk_ => by cases hk_; exact GEg4.out)); clear HB; have HB := n_; clear n_; have BKz := Pst.A hbs; have KS := Pst.A (show Kept _ ws (fun k => k = g4) from ⟨hgs.size, fun i hi hn => hgs.block i hi (fun he => hn (Option.some.inj he))⟩); clear hbs hgs))
    refine bodyPost_ret (results_ct rfl _ _ g4 44 #[.int .i64 s1, .int .i64 s2, .int .i64 s3, .slice A3 s4.length c3, .slice A4 s5.length c4, .int .i64 s6, .int .i64 s7, .slice A7 s8.length c7, .int .i64 s9, .int .i64 s10, .int .i64 s11, .int .i64 s12, .slice A12 acc.length c12, .int .i64 wa, .int .i64 st, .int .i64 co] (0, 0) _ rfl BKz.out Tryz.underlying44 rfl (by kernel_rfl)) rfl ?_
    have KF := Pst.A (show Kept w7 ws (fun k_ => k_ = g7 ∨ k_ = g4) from (AK.out.mono (fun _ h_ => Or.inl h_)).then_ KS.out (fun _ h_ => Or.inl (Or.inr h_)))
    have b4_ := blk_below BK4.out HBr.out
    refine ⟨_, _, _, _, rfl, ?_, ?_, ?_, ?_, Pst.bel⟩
    ·exact Kd.R_lower (Kd.R_mono (Kd.R_kept (Kd.R_types (Kd.R_types HO3.out BKF.out (by decide)) b4_ (by decide)) KF.out (fun _ hk he => he.elim hk.1.2 hk.2)) (fun _ hk => hk.1.1)) HB6.out.size
    ·exact Kd.R_lower (Kd.R_mono (Kd.R_kept (Kd.R_types (Kd.R_types HO4.out BKF.out (by decide)) b4_ (by decide)) KF.out (fun _ hk he => he.elim hk.1.2 hk.2)) (fun _ hk => hk.1.1)) HB6.out.size
    ·exact Kd.R_lower (Kd.R_mono (Kd.R_kept (Kd.R_types (Kd.R_types HO7.out BKF.out (by decide)) b4_ (by decide)) KF.out (fun _ hk he => he.elim hk.1.2 hk.2)) (fun _ hk => hk.1.1)) HB6.out.size
    exact Kd.R_mono (Kd.R_kept HL.out KS.out (fun k_ hk he => by have h1_ := blk_lt b4_; omega)) (fun _ _ => trivial)
   have hmb : (t.toList != a0.toList) = true := by simpa using ht
   have hmb2 : (t.toList == a0.toList) = false := by simpa using hmb
   have hmb3 : (!t.toList == a0.toList) = true := by rw [hmb2]; rfl
   rw [if_neg ht] at H3
   obtain ⟨rfl, rfl, rfl, rfl, rfl, rfl, rfl, rfl, rfl, rfl, rfl, rfl, rfl, rfl, rfl, rfl, rfl⟩ := noWorldIs H3
   clear H3 ht
   go_wp2_with (first
    | ((with_reducible refine gate_ (.load 44 (.tmp 7)) rfl ?_); (try (refine gate_guard (by rfl) ?_; dsimp only)); refine wpList_load_row rfl 44 (.tmp 7) rfl g7 rfl 44 _ _ _ (Pst.qb BK.out) Tryz.underlying44 rfl (by kernel_rfl) ?_)
    | (go_at_call 29; refine (impl_WorldOk.calls k s1 s2 s3 A3 c3 s4 A4 c4 s5 s6 s7 A7 c7 s8 s9 s10 s11 s12 A12 c12 acc wa st co _ _ (Kd.R_reads' (Kd.R_kept (Kd.R_types HO3.out BKF.out (by decide)) (by exact AK.out) (fun _ hk => hk.2))).2.2 (Kd.R_reads' (Kd.R_kept (Kd.R_types HO3.out BKF.out (by decide)) (by exact AK.out) (fun _ hk => hk.2))).2.1 (Kd.R_reads' (Kd.R_kept (Kd.R_types HO4.out BKF.out (by decide)) (by exact AK.out) (fun _ hk => hk.2))).2.2 (Kd.R_reads' (Kd.R_kept (Kd.R_types HO4.out BKF.out (by decide)) (by exact AK.out) (fun _ hk => hk.2))).2.1 (Kd.R_reads' (Kd.R_kept (Kd.R_types HO7.out BKF.out (by decide)) (by exact AK.out) (fun _ hk => hk.2))).2.2 (Kd.R_reads' (Kd.R_kept (Kd.R_types HO7.out BKF.out (by decide)) (by exact AK.out) (fun _ hk => hk.2))).2.1 (Pst.qc (Kd.R_reads' HL.out).2.2) (Kd.R_reads' HL.out).2.1 AW.out).mono ?_; rintro e w12 ⟨rfl, hb⟩; have m0_ := Pst.A (below_step Pst.bel hb); have m1_ := Pst.A ((AK.out).below hb); have m2_ := Pst.A (blk_below BK.out hb); have m3_ := Pst.A (Kd.R_below HL.out hb); clear HB AK BK HL; have HB := m0_; have AK := m1_; have BK := m2_; have HL := m3_; clear m0_ m1_ m2_ m3_ hb)
    | (go_at_call 30; refine (impl_WorldText.calls k s1 s2 s3 A3 c3 s4 A4 c4 s5 s6 s7 A7 c7 s8 s9 s10 s11 s12 A12 c12 acc wa st co t _ (Kd.R_reads' (Kd.R_kept (Kd.R_types HO3.out BKF.out (by decide)) (by exact AK.out) (fun _ hk => hk.2))).2.2 (Kd.R_reads' (Kd.R_kept (Kd.R_types HO3.out BKF.out (by decide)) (by exact AK.out) (fun _ hk => hk.2))).2.1 (Kd.R_reads' (Kd.R_kept (Kd.R_types HO4.out BKF.out (by decide)) (by exact AK.out) (fun _ hk => hk.2))).2.2 (Kd.R_reads' (Kd.R_kept (Kd.R_types HO4.out BKF.out (by decide)) (by exact AK.out) (fun _ hk => hk.2))).2.1 (Kd.R_reads' (Kd.R_kept (Kd.R_types HO7.out BKF.out (by decide)) (by exact AK.out) (fun _ hk => hk.2))).2.2 (Kd.R_reads' (Kd.R_kept (Kd.R_types HO7.out BKF.out (by decide)) (by exact AK.out) (fun _ hk => hk.2))).2.1 (Pst.qc (Kd.R_reads' HL.out).2.2) (Kd.R_reads' HL.out).2.1 AT.out (HT.out.on Pst.bel)).mono ?_; rintro e w13 ⟨rfl, hb⟩; have m0_ := Pst.A (below_step Pst.bel hb); have m1_ := Pst.A ((AK.out).below hb); have m2_ := Pst.A (blk_below BK.out hb); have m3_ := Pst.A (Kd.R_below HL.out hb); clear HB AK BK HL; have HB := m0_; have AK := m1_; have BK := m2_; have HL := m3_; clear m0_ m1_ m2_ m3_ hb)
    | ((with_reducible refine gate_ (.store 44 (.tmp 4) (.tmp 66)) rfl ?_); refine storeAll rfl 44 (.tmp 4) (.tmp 66) rfl g4 #[.int .i64 0, .int .i64 0, .int .i64 0, .slice none 0 0, .slice none 0 0, .int .i64 0, .int .i64 0, .slice none 0 0, .int .i64 0, .int .i64 0, .int .i64 0, .int .i64 0, .slice none 0 0, .int .i64 0, .int .i64 0, .int .i64 0] rfl rfl 44 #[.int .i64 0, .int .i64 0, .int .i64 0, .slice none 0 0, .slice none 0 0, .int .i64 0, .int .i64 0, .slice none 0 0, .int .i64 0, .int .i64 0, .int .i64 0, .int .i64 0, .slice none 0 0, .int .i64 0, .int .i64 0, .int .i64 0] ?hb (by kernel_rfl) rfl (by simp [Value.oneCell']) ?_; (case hb => exact (blk_kept (blk_below BK4.out HBr.out) AK.out NE4.out)); intro ws hbs hgs; have n_ := Pst.A (pw_below_grown Pst.bel (some g4) (below_size Pst.bel) hgs (fun k_ hk_ => by cases hk_; exact GEg4.out)); clear HB; have HB := n_; clear n_; have BKz := Pst.A hbs; clear hbs hgs))
   refine bodyPost_ret (results_ct rfl _ _ g4 44 #[.int .i64 0, .int .i64 0, .int .i64 0, .slice none 0 0, .slice none 0 0, .int .i64 0, .int .i64 0, .slice none 0 0, .int .i64 0, .int .i64 0, .int .i64 0, .int .i64 0, .slice none 0 0, .int .i64 0, .int .i64 0, .int .i64 0] (0, 0) _ rfl BKz.out Tryz.underlying44 rfl (by kernel_rfl)) rfl ?_
   exact ⟨_, _, _, _, rfl, Kd.R_nil _ _ _ _ _, Kd.R_nil _ _ _ _ _, Kd.R_nil _ _ _ _ _, Kd.R_nil _ _ _ _ _, Pst.bel⟩
 rw [if_neg hP] at H
 obtain ⟨rfl, rfl, rfl, rfl, rfl, rfl, rfl, rfl, rfl, rfl, rfl, rfl, rfl, rfl, rfl, rfl, rfl⟩ := noWorldIs H
 clear H
 have hPb := decide_eq_false hP
 clear hP
 go_enter Tryz.func7, Tryz.ntmps7
 go_wp2_with (first
  | ((with_reducible refine gate_dst (N := 3) rfl ?_); refine Pst.bx 3 #[.int .i64 a1_0, .int .i64 a1_1, .int .i64 a1_2, .slice A1_3 l1_3.length c1_3, .slice A1_4 l1_4.length c1_4, .int .i64 a1_5, .int .i64 a1_6, .slice A1_7 l1_7.length c1_7, .int .i64 a1_8, .int .i64 a1_9, .int .i64 a1_10, .int .i64 a1_11] 41 ?_; intro g3 hg wg3 hbox hb; have n0_ := Pst.A (below_step Pst.bel hb); have n1_ := Pst.A hbox; have n2_ := Pst.A (Pst.gs hg : w.heap.size ≤ g3); clear HB; have HB := n0_; have BKg3 := n1_; have GEg3 := n2_; clear n0_ n1_ n2_ ; clear hb hbox hg)
  | ((with_reducible refine gate_dst (N := 4) rfl ?_); refine Pst.bx 4 #[.int .i64 0, .int .i64 0, .int .i64 0, .slice none 0 0, .slice none 0 0, .int .i64 0, .int .i64 0, .slice none 0 0, .int .i64 0, .int .i64 0, .int .i64 0, .int .i64 0, .slice none 0 0, .int .i64 0, .int .i64 0, .int .i64 0] 44 ?_; intro g4 hg wg4 hbox hb; have n0_ := Pst.A (below_step Pst.bel hb); have n1_ := Pst.A hbox; have n2_ := Pst.A (Pst.gs hg : w.heap.size ≤ g4); have m0_ := Pst.A (Pst.kb BKg3.out hb); clear HB; have HB := n0_; have BKg4 := n1_; have GEg4 := n2_; clear BKg3; have BKg3 := m0_; clear n0_ n1_ n2_ m0_; clear hb hbox hg)
  | (go_at_call 23; refine (strings_Split.calls a0 (⟨#[32]⟩ : ByteArray) P _ AP.out (HT.out.on Pst.bel)).mono ?_; rintro e w5 ⟨v6, rfl, hR6, hb⟩; have m3_ := Pst.A hR6; have m0_ := Pst.A (below_step Pst.bel hb); have m1_ := Pst.A (Pst.kb BKg3.out hb); have m2_ := Pst.A (Pst.kb BKg4.out hb); have m4_ := Pst.A hb.size; clear hR6 hb; clear HB BKg3 BKg4; have HB := m0_; have BKg3 := m1_; have BKg4 := m2_; have HR6 := m3_; clear m0_ m1_ m2_ m3_ m4_; obtain ⟨A6, c6, e6⟩ := Kd.R_slice HR6.out; subst e6)
  | (go_at_call 24; refine (impl_in.calls (P.length : Int) 6 25 _ _ (implIn625 P)).mono ?_; rintro e w6 ⟨rfl, ⟨nd, rfl⟩⟩)
  | ((with_reducible refine gate_ (.store 44 (.tmp 4) (.tmp 18)) rfl ?_); refine storeAll rfl 44 (.tmp 4) (.tmp 18) rfl g4 #[.int .i64 0, .int .i64 0, .int .i64 0, .slice none 0 0, .slice none 0 0, .int .i64 0, .int .i64 0, .slice none 0 0, .int .i64 0, .int .i64 0, .int .i64 0, .int .i64 0, .slice none 0 0, .int .i64 0, .int .i64 0, .int .i64 0] rfl rfl 44 #[.int .i64 0, .int .i64 0, .int .i64 0, .slice none 0 0, .slice none 0 0, .int .i64 0, .int .i64 0, .slice none 0 0, .int .i64 0, .int .i64 0, .int .i64 0, .int .i64 0, .slice none 0 0, .int .i64 0, .int .i64 0, .int .i64 0] ?hb (by kernel_rfl) rfl (by simp [Value.oneCell']) ?_; (case hb => exact Pst.qb BKg4.out); intro ws hbs hgs; have n_ := Pst.A (pw_below_grown Pst.bel (some g4) (below_size Pst.bel) hgs (fun k_ hk_ => by cases hk_; exact GEg4.out)); clear HB; have HB := n_; clear n_; clear BKg4; have BKg4 := Pst.A hbs; clear hbs hgs))
 refine bodyPost_ret (results_ct rfl _ _ g4 44 #[.int .i64 0, .int .i64 0, .int .i64 0, .slice none 0 0, .slice none 0 0, .int .i64 0, .int .i64 0, .slice none 0 0, .int .i64 0, .int .i64 0, .int .i64 0, .int .i64 0, .slice none 0 0, .int .i64 0, .int .i64 0, .int .i64 0] (0, 0) _ rfl BKg4.out Tryz.underlying44 rfl (by kernel_rfl)) rfl ?_
 exact ⟨_, _, _, _, rfl, Kd.R_nil _ _ _ _ _, Kd.R_nil _ _ _ _ _, Kd.R_nil _ _ _ _ _, Kd.R_nil _ _ _ _ _, Pst.bel⟩

/-! ### spec_l01Parts: function 15 -/
def spec_l01Parts.l0 : Nat → ByteArray → Int → List ByteArray → Int → Int → Option (List ByteArray)
 | 0, _, _, _, _, _ => none
 | k + 1, x0, x1, x5, x6, x7 => if x7 ≤ (x0.size : Int) then (if x7 = (x0.size : Int) then (if 0 ≤ x6 then (if x6 ≤ x7 then (if x5.length < 8796093022208 then (spec_l01Parts.l0 k x0 x1 (x5 ++ [x0.extract (x6 : Int).toNat (x7 : Int).toNat]) (wrap64 (x7 + 1)) (wrap64 (x7 + 1))) else (none)) else (none)) else (none)) else (if 0 ≤ x7 then (if x7 < (x0.size : Int) then (if (bt x0 x7) = x1 then (if 0 ≤ x6 then (if x6 ≤ x7 then (if x5.length < 8796093022208 then (spec_l01Parts.l0 k x0 x1 (x5 ++ [x0.extract (x6 : Int).toNat (x7 : Int).toNat]) (wrap64 (x7 + 1)) (wrap64 (x7 + 1))) else (none)) else (none)) else (none)) else (spec_l01Parts.l0 k x0 x1 x5 x6 (wrap64 (x7 + 1)))) else (none)) else (none))) else (some x5)
def spec_l01Parts.f (k : Nat) (a0 : ByteArray) (a1 : Int) : Option (List ByteArray) := spec_l01Parts.l0 k a0 a1 (([] : List ByteArray)) 0 0
theorem spec_l01Parts.mono_l : ∀ k, (∀ y0 y1 y2 y3 y4, LeO (spec_l01Parts.l0 k y0 y1 y2 y3 y4) (spec_l01Parts.l0 (k + 1) y0 y1 y2 y3 y4))
 | 0 => fun _ _ _ _ _ r h => by simp [spec_l01Parts.l0] at h
 | k + 1 => by
  have ih0 := spec_l01Parts.mono_l k
  ·intro y0 y1 y2 y3 y4
   unfold spec_l01Parts.l0
   exact Pst.mo
theorem spec_l01Parts.mono : ∀ a0 a1 k, LeO (spec_l01Parts.f k a0 a1) (spec_l01Parts.f (k + 1) a0 a1) := by
 intro a0 a1 k
 have ih0 := spec_l01Parts.mono_l k
 unfold spec_l01Parts.f
 exact Pst.mo
theorem spec_l01Parts.calls (k : Nat) (a0 : ByteArray) (a1 : Int) (r : List ByteArray) (w : World) (h : spec_l01Parts.f k a0 a1 = some r) :
    Calls Tryz.prog 15 #[.string a0, .int .u8 a1] w fun e w' => ∃ v0_ : Value, e = .returned (v0_) ∧ Kd.R Kd.string 9 w' w.heap.size (fun _ => True) v0_ r ∧ Below w.heap.size w w' := by
 have HB := Pst.A (Below.refl w.heap.size w)
 have H : (spec_l01Parts.l0 k a0 a1 (([] : List ByteArray)) 0 0) = some r := h
 clear h
 obtain ⟨y190, hy190⟩ : ∃ y_ : List ByteArray, y_ = (([] : List ByteArray)) := ⟨_, rfl⟩
 replace H : (spec_l01Parts.l0 k a0 a1 y190 0 0) = some r := by first | (rw [hy190]; with_reducible exact H) | (have H2_ := (Option.bind_some _ _).symm.trans H; rw [hy190]; with_reducible exact H2_) | (have H2_ := (Option.bind_some _ _).symm.trans H; with_reducible exact H2_) | with_reducible exact H | (rw [hy190]; exact H) | exact H
 have Ny190 := Pst.A hy190
 clear hy190
 have H' := Pst.A H
 clear H
 go_enter Tryz.func15, Tryz.ntmps15
 go_wp2_with (first | ((with_reducible refine gate_dst (N := 8) rfl ?_); refine Kd.R_lit Kd.string _ 9 ?hg (N := 8) ?hd (xs := ([] : List ByteArray)) (inner := []) (ok := fun _ => True) (okp := fun _ => True) ?hr ?hp (fun _ hk => hk) trivial (Below.refl _ _) (Nat.le_refl _) (by simp) ?_; (case hd => rfl); (case hg => rfl); (case hr => exact Pst.gr); (case hp => exact (Reps.none _ _)); intro v191 w3 ho4 hb hg_ hnew_; clear hg_ hnew_; (first | rw [← Ny190.out] at ho4 | (simp only [Int.reduceToNat] at ho4; rw [← Ny190.out] at ho4)); have HO192 := Pst.A (Kd.R_lower ho4 (below_size Pst.bel)); replace HB := Pst.A (below_step Pst.bel hb); clear hb ho4))
 go_loopg [5, 6, 7] k (fun kq v5 v6 v7 w' => ∃ (x5_1 : List ByteArray) (x6_1 : Int) (x7_1 : Int), v6 = .int .i64 x6_1 ∧ v7 = .int .i64 x7_1 ∧ Aside0 (spec_l01Parts.l0 kq a0 a1 x5_1 x6_1 x7_1 = some r) ∧ Aside0 (kq ≤ k) ∧ Aside0 (Kd.R Kd.string 9 w' w.heap.size (fun _ => True) v5 x5_1) ∧ Aside0 (Below w.heap.size w w'))
 case atStart => exact ⟨(y190), (0), (0), Pst.e2, Pst.e2, H', ⟨Nat.le_refl _⟩, ⟨by (with_reducible repeat (first | apply Kd.R_alloc | apply Kd.R_drewN | apply Kd.R_drew)); exact HO192.out⟩, ⟨Pst.bel⟩⟩
 clear H'
 try clear c1
 try clear p2
 obtain ⟨x5_1, x6_1, x7_1, rfl, rfl, HA, HK1, HO_5, HB⟩ := hrel
 cases gk with
 | zero => exact absurd HA.out (by simp [spec_l01Parts.l0])
 | succ k1 =>
  have H := HA.out
  clear HA
  simp only [spec_l01Parts.l0] at H
  by_cases c5 : x7_1 ≤ (a0.size : Int)
  ·rw [if_pos c5] at H
   have c5b0 : decide (x7_1 ≤ (a0.size : Int)) = true := decide_eq_true c5
   clear c5
   by_cases c6 : x7_1 = (a0.size : Int)
   ·rw [if_pos c6] at H
    have c6b0 : (x7_1 == (a0.size : Int)) = true := beq_iff_eq.mpr c6
    have c6b1 : (x7_1 != (a0.size : Int)) = false := bne_eq_false_iff_eq.mpr c6
    clear c6
    by_cases c7 : 0 ≤ x6_1
    ·rw [if_pos c7] at H
     have c7b0 := eq_true c7
     have c7b1 : decide (0 ≤ x6_1) = true := decide_eq_true c7
     clear c7
     by_cases c8 : x6_1 ≤ x7_1
     ·rw [if_pos c8] at H
      have c8b0 := eq_true c8
      have c8b1 : decide (x6_1 ≤ x7_1) = true := decide_eq_true c8
      clear c8
      have c9b0 := eq_true (Pst.da : x7_1 ≤ (a0.size : Int))
      by_cases c10 : x5_1.length < 8796093022208
      ·rw [if_pos c10] at H
       have LMc10 := Pst.A c10
       clear c10
       obtain ⟨y193, hy193⟩ : ∃ y_ : List ByteArray, y_ = (x5_1 ++ [a0.extract (x6_1 : Int).toNat (x7_1 : Int).toNat]) := ⟨_, rfl⟩
       replace H : (spec_l01Parts.l0 k1 a0 a1 y193 (wrap64 (x7_1 + 1)) (wrap64 (x7_1 + 1))) = some r := by first | (rw [hy193]; with_reducible exact H) | (have H2_ := (Option.bind_some _ _).symm.trans H; rw [hy193]; with_reducible exact H2_) | (have H2_ := (Option.bind_some _ _).symm.trans H; with_reducible exact H2_) | with_reducible exact H | (rw [hy193]; exact H) | exact H
       have Ny193 := Pst.A hy193
       clear hy193
       have H' := Pst.A H
       clear H
       go_wp2_with (first | ((with_reducible refine gate_builtin (b := .append) (xs := #[.tmp 26, .tmp 31]) rfl ?_); at_builtin; refine Kd.R_append Kd.string (w0 := w) w.heap.size rfl (.tmp 26) (.tmp 31) 55 9 (.string ⟨#[]⟩) 16 rfl Tryz.underlying55 info9 rfl (by decide) (by omega) u5 x5_1 (a0.extract (x6_1 : Int).toNat (x7_1 : Int).toNat) [.string (a0.extract (x6_1 : Int).toNat (x7_1 : Int).toNat)] (fun _ => True) (fun _ => False) rfl rfl ?aP (fun _ hk => hk.elim) ?aF ?aO ?aB ?aS ?aL ?_; (case aP => exact rfl); (case aB => exact Pst.bel); (case aF => exact (fun _ _ => trivial)); (case aO => exact (Pst.qr HO_5.out)); (case aS => exact (below_size Pst.bel)); (case aL => have := LMc10.out; omega); intro v194 w11 ho hb hg hat; rw [← Ny193.out] at ho; have HO195 := Pst.A ho; replace HB := Pst.A hb; clear HO_5; clear ho hb hg hat))
       go_roundg k1
       case measure => have := HK1.out; omega
       case rel => exact ⟨(y193), (wrap64 (x7_1 + 1)), (wrap64 (x7_1 + 1)), Pst.e2, Pst.e2, H', ⟨by have := HK1.out; omega⟩, ⟨by (with_reducible repeat (first | apply Kd.R_alloc | apply Kd.R_drewN | apply Kd.R_drew)); exact HO195.out⟩, ⟨Pst.bel⟩⟩
      ·rw [if_neg c10] at H
       exact absurd H (by simp)
     ·rw [if_neg c8] at H
      exact absurd H (by simp)
    ·rw [if_neg c7] at H
     exact absurd H (by simp)
   ·rw [if_neg c6] at H
    have c6b0 : (x7_1 == (a0.size : Int)) = false := beq_eq_false_iff_ne.mpr c6
    have c6b1 : (x7_1 != (a0.size : Int)) = true := bne_iff_ne.mpr c6
    by_cases c12 : 0 ≤ x7_1
    ·rw [if_pos c12] at H
     have c12b0 : decide (0 ≤ x7_1) = true := decide_eq_true c12
     clear c12
     by_cases c13 : x7_1 < (a0.size : Int)
     ·rw [if_pos c13] at H
      have c13b0 : decide (x7_1 < (a0.size : Int)) = true := decide_eq_true c13
      clear c13
      by_cases c15 : (bt a0 x7_1) = a1
      ·rw [if_pos c15] at H
       have c15b0 : ((bt a0 x7_1) == a1) = true := beq_iff_eq.mpr c15
       have c15b1 : ((bt a0 x7_1) != a1) = false := bne_eq_false_iff_eq.mpr c15
       clear c15
       by_cases c16 : 0 ≤ x6_1
       ·rw [if_pos c16] at H
        have c16b0 := eq_true c16
        have c16b1 : decide (0 ≤ x6_1) = true := decide_eq_true c16
        clear c16
        by_cases c17 : x6_1 ≤ x7_1
        ·rw [if_pos c17] at H
         have c17b0 := eq_true c17
         have c17b1 : decide (x6_1 ≤ x7_1) = true := decide_eq_true c17
         clear c17
         have c18b0 := eq_true (Pst.da : x7_1 ≤ (a0.size : Int))
         by_cases c19 : x5_1.length < 8796093022208
         ·rw [if_pos c19] at H
          have LMc19 := Pst.A c19
          clear c19
          obtain ⟨y196, hy196⟩ : ∃ y_ : List ByteArray, y_ = (x5_1 ++ [a0.extract (x6_1 : Int).toNat (x7_1 : Int).toNat]) := ⟨_, rfl⟩
          replace H : (spec_l01Parts.l0 k1 a0 a1 y196 (wrap64 (x7_1 + 1)) (wrap64 (x7_1 + 1))) = some r := by first | (rw [hy196]; with_reducible exact H) | (have H2_ := (Option.bind_some _ _).symm.trans H; rw [hy196]; with_reducible exact H2_) | (have H2_ := (Option.bind_some _ _).symm.trans H; with_reducible exact H2_) | with_reducible exact H | (rw [hy196]; exact H) | exact H
          have Ny196 := Pst.A hy196
          clear hy196
          have H' := Pst.A H
          clear H
          have p14 : 0 ≤ (x7_1 : Int) := Pst.da
          have q14 : x7_1 < (a0.size : Int) := Pst.da
          have hx14 := bt_at a0 x7_1
          replace p14 := eq_true p14
          replace q14 := eq_true q14
          go_wp2_with (first | ((with_reducible refine gate_builtin (b := .append) (xs := #[.tmp 26, .tmp 31]) rfl ?_); at_builtin; refine Kd.R_append Kd.string (w0 := w) w.heap.size rfl (.tmp 26) (.tmp 31) 55 9 (.string ⟨#[]⟩) 16 rfl Tryz.underlying55 info9 rfl (by decide) (by omega) u5 x5_1 (a0.extract (x6_1 : Int).toNat (x7_1 : Int).toNat) [.string (a0.extract (x6_1 : Int).toNat (x7_1 : Int).toNat)] (fun _ => True) (fun _ => False) rfl rfl ?aP (fun _ hk => hk.elim) ?aF ?aO ?aB ?aS ?aL ?_; (case aP => exact rfl); (case aB => exact Pst.bel); (case aF => exact (fun _ _ => trivial)); (case aO => exact (Pst.qr HO_5.out)); (case aS => exact (below_size Pst.bel)); (case aL => have := LMc19.out; omega); intro v197 w20 ho hb hg hat; rw [← Ny196.out] at ho; have HO198 := Pst.A ho; replace HB := Pst.A hb; clear HO_5; clear ho hb hg hat))
          go_roundg k1
          case measure => have := HK1.out; omega
          case rel => exact ⟨(y196), (wrap64 (x7_1 + 1)), (wrap64 (x7_1 + 1)), Pst.e2, Pst.e2, H', ⟨by have := HK1.out; omega⟩, ⟨by (with_reducible repeat (first | apply Kd.R_alloc | apply Kd.R_drewN | apply Kd.R_drew)); exact HO198.out⟩, ⟨Pst.bel⟩⟩
         ·rw [if_neg c19] at H
          exact absurd H (by simp)
        ·rw [if_neg c17] at H
         exact absurd H (by simp)
       ·rw [if_neg c16] at H
        exact absurd H (by simp)
      ·rw [if_neg c15] at H
       have c15b0 : ((bt a0 x7_1) == a1) = false := beq_eq_false_iff_ne.mpr c15
       have c15b1 : ((bt a0 x7_1) != a1) = true := bne_iff_ne.mpr c15
       have H' := Pst.A H
       clear H
       have p14 : 0 ≤ (x7_1 : Int) := Pst.da
       have q14 : x7_1 < (a0.size : Int) := Pst.da
       have hx14 := bt_at a0 x7_1
       replace p14 := eq_true p14
       replace q14 := eq_true q14
       go_wp2
       go_roundg k1
       case measure => have := HK1.out; omega
       case rel => exact ⟨(x5_1), (x6_1), (wrap64 (x7_1 + 1)), Pst.e2, Pst.e2, H', ⟨by have := HK1.out; omega⟩, ⟨by (with_reducible repeat (first | apply Kd.R_alloc | apply Kd.R_drewN | apply Kd.R_drew)); exact HO_5.out⟩, ⟨Pst.bel⟩⟩
     ·rw [if_neg c13] at H
      exact absurd H (by simp)
    ·rw [if_neg c12] at H
     exact absurd H (by simp)
  ·rw [if_neg c5] at H
   have c5b0 : decide (x7_1 ≤ (a0.size : Int)) = false := decide_eq_false c5
   clear c5
   obtain rfl := Option.some.inj H
   go_wp2
   go_ret
   exact ⟨_, Pst.e1, by (with_reducible repeat (first | apply Kd.R_alloc | apply Kd.R_drewN | apply Kd.R_drew)); exact HO_5.out, Pst.bel⟩
theorem spec_l01Parts.l0.st {x0 : ByteArray} {x1 : Int} {x5 : List ByteArray} {x6 : Int} {x7 : Int} {r : (List ByteArray)} (H : Ev (fun k => if x7 ≤ (x0.size : Int) then (if x7 = (x0.size : Int) then (if 0 ≤ x6 then (if x6 ≤ x7 then (if x5.length < 8796093022208 then (spec_l01Parts.l0 k x0 x1 (x5 ++ [x0.extract (x6 : Int).toNat (x7 : Int).toNat]) (wrap64 (x7 + 1)) (wrap64 (x7 + 1))) else (none)) else (none)) else (none)) else (if 0 ≤ x7 then (if x7 < (x0.size : Int) then (if (bt x0 x7) = x1 then (if 0 ≤ x6 then (if x6 ≤ x7 then (if x5.length < 8796093022208 then (spec_l01Parts.l0 k x0 x1 (x5 ++ [x0.extract (x6 : Int).toNat (x7 : Int).toNat]) (wrap64 (x7 + 1)) (wrap64 (x7 + 1))) else (none)) else (none)) else (none)) else (spec_l01Parts.l0 k x0 x1 x5 x6 (wrap64 (x7 + 1)))) else (none)) else (none))) else (some x5)) r) : Ev (fun k => spec_l01Parts.l0 k x0 x1 x5 x6 x7) r := Ev.step (fun k => spec_l01Parts.l0.eq_2 x0 x1 x5 x6 x7 k) H

/-! ### spec_l01In: function 42 -/
def spec_l01In.f (a0 : Int) (a1 : Int) (a2 : Int) : Option (Bool) := if a1 ≤ a0 then (some (decide (a0 ≤ a2))) else (some false)
theorem spec_l01In.calls (a0 : Int) (a1 : Int) (a2 : Int) (r : Bool) (w : World) (h : spec_l01In.f a0 a1 a2 = some r) :
    Calls Tryz.prog 42 #[.int .i64 a0, .int .i64 a1, .int .i64 a2] w fun e w' => e = .returned (.bool r) ∧ Drawn0 w w' := by
 have H : (if a1 ≤ a0 then (some (decide (a0 ≤ a2))) else (some false)) = some r := h
 clear h
 by_cases c4 : a1 ≤ a0
 ·rw [if_pos c4] at H
  have c4b0 : decide (a1 ≤ a0) = true := decide_eq_true c4
  clear c4
  obtain rfl := Option.some.inj H
  go_enter Tryz.func42, Tryz.ntmps42
  go_wp2
  go_ret
  exact ⟨Pst.e2, by repeat (first | exact Drawn0.refl _ | apply Drawn0.step)⟩
 ·rw [if_neg c4] at H
  have c4b0 : decide (a1 ≤ a0) = false := decide_eq_false c4
  clear c4
  obtain rfl := Option.some.inj H
  go_enter Tryz.func42, Tryz.ntmps42
  go_wp2
  go_ret
  exact ⟨Pst.e2, by repeat (first | exact Drawn0.refl _ | apply Drawn0.step)⟩

/-! ### spec_l01Num: function 43 -/
def spec_l01Num.l0 : Nat → Int → ByteArray → Bool → Option (ByteArray)
 | 0, _, _, _ => none
 | k + 1, x0, x3, x4 => if x0 = 0 then (if x4 = true then (if 1 + x3.size ≤ 9223372036854775807 then (some ((⟨#[45]⟩ : ByteArray) ++ x3)) else (none)) else (some x3)) else (if (Int.tmod x0 10) < 0 then ((some (([(wrap64 (48 + (wrap64 (-(Int.tmod x0 10))))) % 256] : List Int) : List Int)).bind fun y199 => (if (strOfNums y199).size + x3.size ≤ 9223372036854775807 then (spec_l01Num.l0 k (wrap64 (Int.tdiv x0 10)) ((strOfNums y199) ++ x3) x4) else (none))) else ((some (([(wrap64 (48 + (Int.tmod x0 10))) % 256] : List Int) : List Int)).bind fun y202 => (if (strOfNums y202).size + x3.size ≤ 9223372036854775807 then (spec_l01Num.l0 k (wrap64 (Int.tdiv x0 10)) ((strOfNums y202) ++ x3) x4) else (none))))
def spec_l01Num.f (k : Nat) (a0 : Int) : Option (ByteArray) := if a0 = 0 then (some (⟨#[48]⟩ : ByteArray)) else (spec_l01Num.l0 k a0 (⟨#[]⟩ : ByteArray) (decide (a0 < 0)))
theorem spec_l01Num.mono_l : ∀ k, (∀ y0 y1 y2, LeO (spec_l01Num.l0 k y0 y1 y2) (spec_l01Num.l0 (k + 1) y0 y1 y2))
 | 0 => fun _ _ _ r h => by simp [spec_l01Num.l0] at h
 | k + 1 => by
  have ih0 := spec_l01Num.mono_l k
  ·intro y0 y1 y2
   unfold spec_l01Num.l0
   exact Pst.mo
theorem spec_l01Num.mono : ∀ a0 k, LeO (spec_l01Num.f k a0) (spec_l01Num.f (k + 1) a0) := by
 intro a0 k
 have ih0 := spec_l01Num.mono_l k
 unfold spec_l01Num.f
 exact Pst.mo
theorem spec_l01Num.calls (k : Nat) (a0 : Int) (r : ByteArray) (w : World) (h : spec_l01Num.f k a0 = some r) :
    Calls Tryz.prog 43 #[.int .i64 a0] w fun e w' => e = .returned (.string r) ∧ Below w.heap.size w w' := by
 have HB := Pst.A (Below.refl w.heap.size w)
 have H : (if a0 = 0 then (some (⟨#[48]⟩ : ByteArray)) else (spec_l01Num.l0 k a0 (⟨#[]⟩ : ByteArray) (decide (a0 < 0)))) = some r := h
 clear h
 by_cases c2 : a0 = 0
 ·rw [if_pos c2] at H
  have c2b0 : (a0 == 0) = true := beq_iff_eq.mpr c2
  have c2b1 : (a0 != 0) = false := bne_eq_false_iff_eq.mpr c2
  clear c2
  obtain rfl := Option.some.inj H
  go_enter Tryz.func43, Tryz.ntmps43
  go_wp2
  go_ret
  exact ⟨Pst.e1, Pst.bel⟩
 ·rw [if_neg c2] at H
  have c2b0 : (a0 == 0) = false := beq_eq_false_iff_ne.mpr c2
  have c2b1 : (a0 != 0) = true := bne_iff_ne.mpr c2
  have H' := Pst.A H
  clear H
  go_enter Tryz.func43, Tryz.ntmps43
  go_wp2
  go_loopg [0, 3] k (fun kq v0 v3 w' => ∃ (x0_1 : Int) (x3_1 : ByteArray), v0 = .int .i64 x0_1 ∧ v3 = .string x3_1 ∧ Aside0 (spec_l01Num.l0 kq x0_1 x3_1 (decide (a0 < 0)) = some r) ∧ Aside0 (kq ≤ k) ∧ Aside0 (Below w.heap.size w w'))
  case atStart => exact ⟨(a0), ((⟨#[]⟩ : ByteArray)), Pst.e2, Pst.e2, H', ⟨Nat.le_refl _⟩, ⟨Pst.bel⟩⟩
  clear H'
  try clear c2
  try clear c2b0
  try clear c2b1
  try clear p2
  obtain ⟨x0_1, x3_1, rfl, rfl, HA, HK1, HB⟩ := hrel
  cases gk with
  | zero => exact absurd HA.out (by simp [spec_l01Num.l0])
  | succ k1 =>
   have H := HA.out
   clear HA
   simp only [spec_l01Num.l0] at H
   by_cases c3 : x0_1 = 0
   ·rw [if_pos c3] at H
    have c3b0 : (x0_1 == 0) = true := beq_iff_eq.mpr c3
    have c3b1 : (x0_1 != 0) = false := bne_eq_false_iff_eq.mpr c3
    clear c3
    by_cases c4 : (decide (a0 < 0)) = true
    ·rw [if_pos c4] at H
     have c4b0 : (decide (a0 < 0)) = true := c4
     have c4b9 : a0 < 0 := of_decide_eq_true c4b0
     have c4b8 : ¬ (0 ≤ a0) := Int.not_le.2 c4b9
     clear c4
     by_cases c5 : 1 + x3_1.size ≤ 9223372036854775807
     ·rw [if_pos c5] at H
      have c5b0 := eq_true c5
      have c5b1 : decide (1 + x3_1.size ≤ 9223372036854775807) = true := decide_eq_true c5
      try have c5b2 : (9223372036854775807 < 1 + x3_1.size) = False := eq_false (Nat.not_lt.2 c5)
      obtain rfl := Option.some.inj H
      go_wp2
      go_ret
      exact ⟨Pst.e1, Pst.bel⟩
     ·rw [if_neg c5] at H
      exact absurd H (by simp)
    ·rw [if_neg c4] at H
     have c4b0 : (decide (a0 < 0)) = false := by simpa using c4
     have c4b9 : ¬ a0 < 0 := of_decide_eq_false c4b0
     have c4b8 : 0 ≤ a0 := Int.not_lt.1 c4b9
     clear c4
     obtain rfl := Option.some.inj H
     go_wp2
     go_ret
     exact ⟨Pst.e1, Pst.bel⟩
   ·rw [if_neg c3] at H
    have c3b0 : (x0_1 == 0) = false := beq_eq_false_iff_ne.mpr c3
    have c3b1 : (x0_1 != 0) = true := bne_iff_ne.mpr c3
    by_cases c6 : (Int.tmod x0_1 10) < 0
    ·rw [if_pos c6] at H
     have c6b0 : decide ((Int.tmod x0_1 10) < 0) = true := decide_eq_true c6
     clear c6
     obtain ⟨y199, hy199⟩ : ∃ y_ : List Int, y_ = (([(wrap64 (48 + (wrap64 (-(Int.tmod x0_1 10))))) % 256] : List Int)) := ⟨_, rfl⟩
     replace H : (if (strOfNums y199).size + x3_1.size ≤ 9223372036854775807 then (spec_l01Num.l0 k1 (wrap64 (Int.tdiv x0_1 10)) ((strOfNums y199) ++ x3_1) (decide (a0 < 0))) else (none)) = some r := by first | (rw [hy199]; with_reducible exact H) | (have H2_ := (Option.bind_some _ _).symm.trans H; rw [hy199]; with_reducible exact H2_) | (have H2_ := (Option.bind_some _ _).symm.trans H; with_reducible exact H2_) | with_reducible exact H | (rw [hy199]; exact H) | exact H
     have Ny199 := Pst.A hy199
     clear hy199
     by_cases c7 : (strOfNums y199).size + x3_1.size ≤ 9223372036854775807
     ·rw [if_pos c7] at H
      have c7b0 := eq_true c7
      have c7b1 : decide ((strOfNums y199).size + x3_1.size ≤ 9223372036854775807) = true := decide_eq_true c7
      try have c7b2 : (9223372036854775807 < (strOfNums y199).size + x3_1.size) = False := eq_false (Nat.not_lt.2 c7)
      have H' := Pst.A H
      clear H
      go_wp2_with (first | ((with_reducible refine gate_dst (N := 21) rfl ?_); refine Kd.R_lit (Kd.int .u8) _ 5 ?hg (N := 21) ?hd (xs := ([(wrap64 (48 + (wrap64 (-(Int.tmod x0_1 10))))) % 256] : List Int)) (inner := [.int .u8 ((wrap64 (48 + (wrap64 (-(Int.tmod x0_1 10))))) % 256)]) (ok := fun _ => True) (okp := fun _ => True) ?hr ?hp (fun _ hk => hk) trivial (Below.refl _ _) (Nat.le_refl _) (by simp) ?_; (case hd => rfl); (case hg => rfl); (case hr => exact Pst.gr); (case hp => exact (Reps.one (show Kd.M (Kd.int .u8) _ _ _ ((wrap64 (48 + (wrap64 (-(Int.tmod x0_1 10))))) % 256) [.int .u8 ((wrap64 (48 + (wrap64 (-(Int.tmod x0_1 10))))) % 256)] from rfl) (Reps.none _ _))); intro v200 w8 ho9 hb hg_ hnew_; clear hg_ hnew_; (first | rw [← Ny199.out] at ho9 | (simp only [Int.reduceToNat] at ho9; rw [← Ny199.out] at ho9)); have HO201 := Pst.A (Kd.R_lower ho9 (below_size Pst.bel)); replace HB := Pst.A (below_step Pst.bel hb); clear hb ho9; have hcv10 := own_string (P := Tryz.prog) Tryz.underlying100 Tryz.underlying5 Tryz.underlying9 (Kd.own_of_R HO201.out)))
      go_roundg k1
      case measure => have := HK1.out; omega
      case rel => exact ⟨(wrap64 (Int.tdiv x0_1 10)), ((strOfNums y199) ++ x3_1), Pst.e2, Pst.e2, H', ⟨by have := HK1.out; omega⟩, ⟨Pst.bel⟩⟩
     ·rw [if_neg c7] at H
      exact absurd H (by simp)
    ·rw [if_neg c6] at H
     have c6b0 : decide ((Int.tmod x0_1 10) < 0) = false := decide_eq_false c6
     clear c6
     obtain ⟨y202, hy202⟩ : ∃ y_ : List Int, y_ = (([(wrap64 (48 + (Int.tmod x0_1 10))) % 256] : List Int)) := ⟨_, rfl⟩
     replace H : (if (strOfNums y202).size + x3_1.size ≤ 9223372036854775807 then (spec_l01Num.l0 k1 (wrap64 (Int.tdiv x0_1 10)) ((strOfNums y202) ++ x3_1) (decide (a0 < 0))) else (none)) = some r := by first | (rw [hy202]; with_reducible exact H) | (have H2_ := (Option.bind_some _ _).symm.trans H; rw [hy202]; with_reducible exact H2_) | (have H2_ := (Option.bind_some _ _).symm.trans H; with_reducible exact H2_) | with_reducible exact H | (rw [hy202]; exact H) | exact H
     have Ny202 := Pst.A hy202
     clear hy202
     by_cases c11 : (strOfNums y202).size + x3_1.size ≤ 9223372036854775807
     ·rw [if_pos c11] at H
      have c11b0 := eq_true c11
      have c11b1 : decide ((strOfNums y202).size + x3_1.size ≤ 9223372036854775807) = true := decide_eq_true c11
      try have c11b2 : (9223372036854775807 < (strOfNums y202).size + x3_1.size) = False := eq_false (Nat.not_lt.2 c11)
      have H' := Pst.A H
      clear H
      go_wp2_with (first | ((with_reducible refine gate_dst (N := 21) rfl ?_); refine Kd.R_lit (Kd.int .u8) _ 5 ?hg (N := 21) ?hd (xs := ([(wrap64 (48 + (Int.tmod x0_1 10))) % 256] : List Int)) (inner := [.int .u8 ((wrap64 (48 + (Int.tmod x0_1 10))) % 256)]) (ok := fun _ => True) (okp := fun _ => True) ?hr ?hp (fun _ hk => hk) trivial (Below.refl _ _) (Nat.le_refl _) (by simp) ?_; (case hd => rfl); (case hg => rfl); (case hr => exact Pst.gr); (case hp => exact (Reps.one (show Kd.M (Kd.int .u8) _ _ _ ((wrap64 (48 + (Int.tmod x0_1 10))) % 256) [.int .u8 ((wrap64 (48 + (Int.tmod x0_1 10))) % 256)] from rfl) (Reps.none _ _))); intro v203 w12 ho13 hb hg_ hnew_; clear hg_ hnew_; (first | rw [← Ny202.out] at ho13 | (simp only [Int.reduceToNat] at ho13; rw [← Ny202.out] at ho13)); have HO204 := Pst.A (Kd.R_lower ho13 (below_size Pst.bel)); replace HB := Pst.A (below_step Pst.bel hb); clear hb ho13; have hcv14 := own_string (P := Tryz.prog) Tryz.underlying100 Tryz.underlying5 Tryz.underlying9 (Kd.own_of_R HO204.out)))
      go_roundg k1
      case measure => have := HK1.out; omega
      case rel => exact ⟨(wrap64 (Int.tdiv x0_1 10)), ((strOfNums y202) ++ x3_1), Pst.e2, Pst.e2, H', ⟨by have := HK1.out; omega⟩, ⟨Pst.bel⟩⟩
     ·rw [if_neg c11] at H
      exact absurd H (by simp)
theorem spec_l01Num.l0.st {x0 : Int} {x3 : ByteArray} {x4 : Bool} {r : (ByteArray)} (H : Ev (fun k => if x0 = 0 then (if x4 = true then (if 1 + x3.size ≤ 9223372036854775807 then (some ((⟨#[45]⟩ : ByteArray) ++ x3)) else (none)) else (some x3)) else (if (Int.tmod x0 10) < 0 then ((some (([(wrap64 (48 + (wrap64 (-(Int.tmod x0 10))))) % 256] : List Int) : List Int)).bind fun y199 => (if (strOfNums y199).size + x3.size ≤ 9223372036854775807 then (spec_l01Num.l0 k (wrap64 (Int.tdiv x0 10)) ((strOfNums y199) ++ x3) x4) else (none))) else ((some (([(wrap64 (48 + (Int.tmod x0 10))) % 256] : List Int) : List Int)).bind fun y202 => (if (strOfNums y202).size + x3.size ≤ 9223372036854775807 then (spec_l01Num.l0 k (wrap64 (Int.tdiv x0 10)) ((strOfNums y202) ++ x3) x4) else (none))))) r) : Ev (fun k => spec_l01Num.l0 k x0 x3 x4) r := Ev.step (fun k => spec_l01Num.l0.eq_2 x0 x3 x4 k) H

/-! ### spec_l01Read: function 16 -/
mutual
def spec_l01Read.j0 : Nat → ByteArray → ByteArray → Bool → Option (Int × Bool)
 | 0, _, _, _ => none
 | k + 1, x0, x4, x15 => if x15 = true then (if 1 ≤ (x0.size : Int) then (spec_l01Read.j1 k x0 (x0.extract 1 x0.size)) else (none)) else (spec_l01Read.j1 k x0 x4)
def spec_l01Read.j1 : Nat → ByteArray → ByteArray → Option (Int × Bool)
 | 0, _, _ => none
 | k + 1, x0, x4 => (spec_l01In.f (x4.size : Int) 1 10).bind fun t205 => (if t205 = true then (spec_l01Read.l0 k x0 x4 0 0) else (some (0, false)))
def spec_l01Read.l0 : Nat → ByteArray → ByteArray → Int → Int → Option (Int × Bool)
 | 0, _, _, _, _ => none
 | k + 1, x0, x4, x5, x6 => if x6 < (x4.size : Int) then (if 0 ≤ x6 then (if (bt x4 x6) < 48 then (some (0, false)) else (if (bt x4 x6) > 57 then (some (0, false)) else (spec_l01Read.l0 k x0 x4 (wrap64 ((wrap64 ((wrap64 (10 * x5)) + (wrap64 (bt x4 x6)))) - 48)) (wrap64 (x6 + 1))))) else (none)) else (if (x4.size : Int) < (x0.size : Int) then ((spec_l01Num.f k (wrap64 (-x5))).bind fun t206 => (some (wrap64 (-x5), (t206.toList == x0.toList)))) else ((spec_l01Num.f k x5).bind fun t207 => (some (x5, (t207.toList == x0.toList)))))
end
def spec_l01Read.f (k : Nat) (a0 : ByteArray) : Option (Int × Bool) := if (a0.size : Int) > 0 then (if 0 < (a0.size : Int) then (spec_l01Read.j0 k a0 a0 ((bt a0 0) == 45)) else (none)) else (spec_l01Read.j0 k a0 a0 false)
theorem spec_l01Read.mono_l : ∀ k, (∀ y0 y1 y2, LeO (spec_l01Read.j0 k y0 y1 y2) (spec_l01Read.j0 (k + 1) y0 y1 y2)) ∧ (∀ y0 y1, LeO (spec_l01Read.j1 k y0 y1) (spec_l01Read.j1 (k + 1) y0 y1)) ∧ (∀ y0 y1 y2 y3, LeO (spec_l01Read.l0 k y0 y1 y2 y3) (spec_l01Read.l0 (k + 1) y0 y1 y2 y3))
 | 0 => ⟨fun _ _ _ r h => by simp [spec_l01Read.j0] at h, fun _ _ r h => by simp [spec_l01Read.j1] at h, fun _ _ _ _ r h => by simp [spec_l01Read.l0] at h⟩
 | k + 1 => by
  obtain ⟨ih0, ih1, ih2⟩ := spec_l01Read.mono_l k
  refine ⟨?_, ?_, ?_⟩
  ·intro y0 y1 y2
   unfold spec_l01Read.j0
   have m0 := @spec_l01Num.mono
   exact Pst.mo
  ·intro y0 y1
   unfold spec_l01Read.j1
   have m0 := @spec_l01Num.mono
   exact Pst.mo
  intro y0 y1 y2 y3
  unfold spec_l01Read.l0
  have m0 := @spec_l01Num.mono
  exact Pst.mo
theorem spec_l01Read.mono : ∀ a0 k, LeO (spec_l01Read.f k a0) (spec_l01Read.f (k + 1) a0) := by
 intro a0 k
 obtain ⟨ih0, ih1, ih2⟩ := spec_l01Read.mono_l k
 unfold spec_l01Read.f
 have m0 := @spec_l01Num.mono
 exact Pst.mo
theorem spec_l01Read.calls (k : Nat) (a0 : ByteArray) (r1 : Int) (r2 : Bool) (w : World) (h : spec_l01Read.f k a0 = some (r1, r2)) :
 Calls Tryz.prog 16 #[.string a0] w fun e w' => e = .returned (.tuple #[.int .i64 r1, .bool r2]) ∧ Below w.heap.size w w' := by
 have HB := Pst.A (Below.refl w.heap.size w)
 have H : (if (a0.size : Int) > 0 then (if 0 < (a0.size : Int) then (spec_l01Read.j0 k a0 a0 ((bt a0 0) == 45)) else (none)) else (spec_l01Read.j0 k a0 a0 false)) = some (r1, r2) := h
 clear h
 have HC2 := Pst.A H
 clear H
 go_enter Tryz.func16, Tryz.ntmps16
 go_upto_region 2 with (fail)
 go_cut [15] (fun v15 wc => ∃ (kq : Nat) (x15_1 : Bool), v15 = .bool x15_1 ∧ Aside0 (spec_l01Read.j0 kq a0 a0 x15_1 = some (r1, r2)) ∧ Aside0 (kq ≤ k) ∧ Aside0 (Below w.heap.size w wc))
 case first =>
  have H := HC2.out
  clear HC2
  by_cases c3 : (a0.size : Int) > 0
  ·rw [if_pos c3] at H
   have c3b0 : decide (0 < (a0.size : Int)) = true := decide_eq_true c3
   have c3b1 : decide (0 < a0.size) = true := decide_eq_true (by omega)
   clear c3
   (first | rw [c3b0] | (simp only [i64_w, i32_w]; rw [c3b0]) | skip)
   by_cases c4 : 0 < (a0.size : Int)
   ·rw [if_pos c4] at H
    have c4b0 : decide (0 < (a0.size : Int)) = true := decide_eq_true c4
    have c4b1 : decide (0 < a0.size) = true := decide_eq_true (by omega)
    clear c4
    have H' := Pst.A H
    clear H
    have p5 : 0 ≤ (0 : Int) := (by omega)
    have q5 : 0 < a0.size := (by have : (0 : Int) < (a0.size : Int) := Pst.da; omega)
    have hx5 : ∀ h : 0 < a0.size, ((a0[0]'h).toNat : Int) = bt a0 0 := bt_at a0 0
    clear p5
    have qi5 : (0 < (a0.size : Int)) = True := eq_true (Pst.da)
    replace q5 := eq_true q5
    go_wp2
    go_meet
    case rel => exact ⟨_, (((bt a0 0) == 45)), Pst.e2, H', ⟨by first | omega | exact Nat.le_refl _⟩, ⟨Pst.bel⟩⟩
   rw [if_neg c4] at H
   exact absurd H (by simp)
  rw [if_neg c3] at H
  have c3b0 : decide (0 < (a0.size : Int)) = false := decide_eq_false c3
  have c3b1 : decide (0 < a0.size) = false := decide_eq_false (by omega)
  clear c3
  (first | rw [c3b0] | (simp only [i64_w, i32_w]; rw [c3b0]) | skip)
  have H' := Pst.A H
  clear H
  go_wp2
  go_meet
  case rel => exact ⟨_, (false), Pst.e2, H', ⟨by first | omega | exact Nat.le_refl _⟩, ⟨Pst.bel⟩⟩
 clear HC2
 try clear c1
 try clear p2
 try clear c3
 try clear c3b0
 try clear c3b1
 try clear c4
 try clear c4b0
 try clear c4b1
 try clear p5
 try clear q5
 try clear hx5
 try clear qi5
 try clear p5
 try clear q5
 obtain ⟨kq, x15_1, rfl, HA, HJ1, HB⟩ := hcut
 cases kq with
 | zero => exact absurd HA.out (by simp [spec_l01Read.j0])
 | succ kj1 =>
  have H := HA.out
  clear HA
  simp only [spec_l01Read.j0] at H
  have HC6 := Pst.A H
  clear H
  go_upto_if 15 with (fail)
  go_cut [4] (fun v4 wc => ∃ (kq : Nat) (x4_5 : ByteArray), v4 = .string x4_5 ∧ Aside0 (spec_l01Read.j1 kq a0 x4_5 = some (r1, r2)) ∧ Aside0 (kq ≤ kj1) ∧ Aside0 (Below w.heap.size w wc))
  case first =>
   have H := HC6.out
   clear HC6
   by_cases c7 : x15_1 = true
   ·subst c7
    rw [if_pos rfl] at H
    by_cases c8 : 1 ≤ (a0.size : Int)
    ·rw [if_pos c8] at H
     have c8b0 := eq_true c8
     have c8b1 : decide (1 ≤ (a0.size : Int)) = true := decide_eq_true c8
     clear c8
     have H' := Pst.A H
     clear H
     go_wp2
     go_meet
     case rel => exact ⟨_, (a0.extract 1 a0.size), Pst.e2, H', ⟨by have := HJ1.out; first | omega | exact Nat.le_refl _⟩, ⟨Pst.bel⟩⟩
    rw [if_neg c8] at H
    exact absurd H (by simp)
   replace c7 := Bool.eq_false_iff.mpr c7
   subst c7
   rw [if_neg Pst.ft] at H
   have H' := Pst.A H
   clear H
   go_wp2
   go_meet
   case rel => exact ⟨_, (a0), Pst.e2, H', ⟨by have := HJ1.out; first | omega | exact Nat.le_refl _⟩, ⟨Pst.bel⟩⟩
  clear HC6
  try clear c1
  try clear p2
  try clear c3
  try clear c3b0
  try clear c3b1
  try clear c4
  try clear c4b0
  try clear c4b1
  try clear p5
  try clear q5
  try clear hx5
  try clear qi5
  try clear c7
  try clear c8
  try clear c8b0
  try clear c8b1
  try clear p2
  try clear p5
  try clear q5
  obtain ⟨kq, x4_5, rfl, HA, HJ5, HB⟩ := hcut
  cases kq with
  | zero => exact absurd HA.out (by simp [spec_l01Read.j1])
  | succ kj5 =>
   have H := HA.out
   clear HA
   simp only [spec_l01Read.j1] at H
   obtain ⟨t205, A90, H⟩ := Pst.bd H
   have A9 := Pst.A A90
   clear A90
   by_cases c10 : t205 = true
   ·subst c10
    rw [if_pos rfl] at H
    have H' := Pst.A H
    clear H
    go_wp2_with (first | ((with_reducible refine gate_callee (f := 42) rfl ?_); refine goesL_ (some 20) rfl rfl Tryz.func42 (by kernel_rfl) rfl #[.int .i64 (x4_5.size : Int), .int .i64 1, .int .i64 10] rfl Pst.ga ?_; (with_reducible refine (spec_l01In.calls (x4_5.size : Int) 1 10 true _ A9.out).mono ?_); rintro e w' ⟨rfl, ⟨nd, rfl⟩⟩; refine ⟨_, rfl, ?_⟩))
    go_loopg [5, 6] kj5 (fun kq v5 v6 w' => ∃ (x5_3 : Int) (x6_3 : Int), v5 = .int .i64 x5_3 ∧ v6 = .int .i64 x6_3 ∧ Aside0 (spec_l01Read.l0 kq a0 x4_5 x5_3 x6_3 = some (r1, r2)) ∧ Aside0 (kq ≤ kj5) ∧ Aside0 (Below w.heap.size w w'))
    case atStart => exact ⟨(0), (0), Pst.e2, Pst.e2, H', ⟨Nat.le_refl _⟩, ⟨Pst.bel⟩⟩
    clear H'
    try clear c1
    try clear p2
    try clear c3
    try clear c3b0
    try clear c3b1
    try clear c4
    try clear c4b0
    try clear c4b1
    try clear p5
    try clear q5
    try clear hx5
    try clear qi5
    try clear c7
    try clear c8
    try clear c8b0
    try clear c8b1
    try clear c10
    try clear p2
    try clear p5
    try clear q5
    obtain ⟨x5_3, x6_3, rfl, rfl, HA, HK3, HB⟩ := hrel
    cases gk with
    | zero => exact absurd HA.out (by simp [spec_l01Read.l0])
    | succ k3 =>
     have H := HA.out
     clear HA
     simp only [spec_l01Read.l0] at H
     by_cases c11 : x6_3 < (x4_5.size : Int)
     ·rw [if_pos c11] at H
      have c11b0 : decide (x6_3 < (x4_5.size : Int)) = true := decide_eq_true c11
      clear c11
      by_cases c12 : 0 ≤ x6_3
      ·rw [if_pos c12] at H
       have c12b0 : decide (0 ≤ x6_3) = true := decide_eq_true c12
       clear c12
       by_cases c14 : (bt x4_5 x6_3) < 48
       ·rw [if_pos c14] at H
        have c14b0 : decide ((bt x4_5 x6_3) < 48) = true := decide_eq_true c14
        clear c14
        simp only [Option.some.injEq, Prod.mk.injEq] at H
        obtain ⟨rfl, rfl⟩ := H
        have p13 : 0 ≤ (x6_3 : Int) := Pst.da
        have q13 : x6_3 < (x4_5.size : Int) := Pst.da
        have hx13 := bt_at x4_5 x6_3
        replace p13 := eq_true p13
        replace q13 := eq_true q13
        go_wp2
        go_ret2
        exact ⟨Pst.e1, Pst.bel⟩
       rw [if_neg c14] at H
       have c14b0 : decide ((bt x4_5 x6_3) < 48) = false := decide_eq_false c14
       clear c14
       by_cases c16 : (bt x4_5 x6_3) > 57
       ·rw [if_pos c16] at H
        have c16b0 : decide (57 < (bt x4_5 x6_3)) = true := decide_eq_true c16
        clear c16
        simp only [Option.some.injEq, Prod.mk.injEq] at H
        obtain ⟨rfl, rfl⟩ := H
        have p13 : 0 ≤ (x6_3 : Int) := Pst.da
        have q13 : x6_3 < (x4_5.size : Int) := Pst.da
        have hx13 := bt_at x4_5 x6_3
        replace p13 := eq_true p13
        replace q13 := eq_true q13
        have p15 : 0 ≤ (x6_3 : Int) := Pst.da
        have q15 : x6_3 < (x4_5.size : Int) := Pst.da
        have hx15 := bt_at x4_5 x6_3
        replace p15 := eq_true p15
        replace q15 := eq_true q15
        go_wp2
        go_ret2
        exact ⟨Pst.e1, Pst.bel⟩
       rw [if_neg c16] at H
       have c16b0 : decide (57 < (bt x4_5 x6_3)) = false := decide_eq_false c16
       clear c16
       have H' := Pst.A H
       clear H
       have p13 : 0 ≤ (x6_3 : Int) := Pst.da
       have q13 : x6_3 < (x4_5.size : Int) := Pst.da
       have hx13 := bt_at x4_5 x6_3
       replace p13 := eq_true p13
       replace q13 := eq_true q13
       have p15 : 0 ≤ (x6_3 : Int) := Pst.da
       have q15 : x6_3 < (x4_5.size : Int) := Pst.da
       have hx15 := bt_at x4_5 x6_3
       replace p15 := eq_true p15
       replace q15 := eq_true q15
       have p17 : 0 ≤ (x6_3 : Int) := Pst.da
       have q17 : x6_3 < (x4_5.size : Int) := Pst.da
       have hx17 := bt_at x4_5 x6_3
       replace p17 := eq_true p17
       replace q17 := eq_true q17
       go_wp2
       go_roundg k3
       case measure => have := HJ1.out; have := HJ5.out; have := HK3.out; omega
       case rel => exact ⟨(wrap64 ((wrap64 ((wrap64 (10 * x5_3)) + (wrap64 (bt x4_5 x6_3)))) - 48)), (wrap64 (x6_3 + 1)), Pst.e2, Pst.e2, H', ⟨by have := HJ1.out; have := HJ5.out; have := HK3.out; omega⟩, ⟨Pst.bel⟩⟩
      rw [if_neg c12] at H
      exact absurd H (by simp)
     rw [if_neg c11] at H
     have c11b0 : decide (x6_3 < (x4_5.size : Int)) = false := decide_eq_false c11
     clear c11
     by_cases c18 : (x4_5.size : Int) < (a0.size : Int)
     ·rw [if_pos c18] at H
      have c18b0 : decide ((x4_5.size : Int) < (a0.size : Int)) = true := decide_eq_true c18
      have c18b1 : decide (x4_5.size < a0.size) = true := decide_eq_true (Int.ofNat_lt.mp c18)
      clear c18
      obtain ⟨t206, A190, H⟩ := Pst.bd H
      have A19 := Pst.A A190
      clear A190
      simp only [Option.some.injEq, Prod.mk.injEq] at H
      obtain ⟨rfl, rfl⟩ := H
      go_wp2_with (first | ((with_reducible refine gate_callee (f := 43) rfl ?_); refine goesL_ (some 55) rfl rfl Tryz.func43 (by kernel_rfl) rfl #[.int .i64 (wrap64 (-x5_3))] rfl Pst.ga ?_; (with_reducible refine (spec_l01Num.calls k3 (wrap64 (-x5_3)) t206 _ A19.out).mono ?_); rintro e w20 ⟨rfl, hb⟩; refine ⟨_, rfl, ?_⟩; replace HB := Pst.A (below_step Pst.bel hb); (try clear hb); (try clear hb2); (try clear hk); (try clear hi)))
      go_ret2
      exact ⟨Pst.e1, Pst.bel⟩
     rw [if_neg c18] at H
     have c18b0 : decide ((x4_5.size : Int) < (a0.size : Int)) = false := decide_eq_false c18
     have c18b1 : decide (x4_5.size < a0.size) = false := decide_eq_false (fun h => c18 (Int.ofNat_lt.mpr h))
     clear c18
     obtain ⟨t207, A210, H⟩ := Pst.bd H
     have A21 := Pst.A A210
     clear A210
     simp only [Option.some.injEq, Prod.mk.injEq] at H
     obtain ⟨rfl, rfl⟩ := H
     go_wp2_with (first | ((with_reducible refine gate_callee (f := 43) rfl ?_); refine goesL_ (some 55) rfl rfl Tryz.func43 (by kernel_rfl) rfl #[.int .i64 x5_3] rfl Pst.ga ?_; (with_reducible refine (spec_l01Num.calls k3 x5_3 t207 _ A21.out).mono ?_); rintro e w22 ⟨rfl, hb⟩; refine ⟨_, rfl, ?_⟩; replace HB := Pst.A (below_step Pst.bel hb); (try clear hb); (try clear hb2); (try clear hk); (try clear hi)))
     go_ret2
     exact ⟨Pst.e1, Pst.bel⟩
   replace c10 := Bool.eq_false_iff.mpr c10
   subst c10
   rw [if_neg Pst.ft] at H
   simp only [Option.some.injEq, Prod.mk.injEq] at H
   obtain ⟨rfl, rfl⟩ := H
   go_wp2_with (first | ((with_reducible refine gate_callee (f := 42) rfl ?_); refine goesL_ (some 20) rfl rfl Tryz.func42 (by kernel_rfl) rfl #[.int .i64 (x4_5.size : Int), .int .i64 1, .int .i64 10] rfl Pst.ga ?_; (with_reducible refine (spec_l01In.calls (x4_5.size : Int) 1 10 false _ A9.out).mono ?_); rintro e w' ⟨rfl, ⟨nd, rfl⟩⟩; refine ⟨_, rfl, ?_⟩))
   go_ret2
   exact ⟨Pst.e1, Pst.bel⟩
theorem spec_l01Read.j0.st {x0 : ByteArray} {x4 : ByteArray} {x15 : Bool} {r : (Int × Bool)} (H : Ev (fun k => if x15 = true then (if 1 ≤ (x0.size : Int) then (spec_l01Read.j1 k x0 (x0.extract 1 x0.size)) else (none)) else (spec_l01Read.j1 k x0 x4)) r) : Ev (fun k => spec_l01Read.j0 k x0 x4 x15) r := Ev.step (fun k => spec_l01Read.j0.eq_2 x0 x4 x15 k) H
theorem spec_l01Read.j1.st {x0 : ByteArray} {x4 : ByteArray} {r : (Int × Bool)} (H : Ev (fun k => (spec_l01In.f (x4.size : Int) 1 10).bind fun t205 => (if t205 = true then (spec_l01Read.l0 k x0 x4 0 0) else (some (0, false)))) r) : Ev (fun k => spec_l01Read.j1 k x0 x4) r := Ev.step (fun k => spec_l01Read.j1.eq_2 x0 x4 k) H
theorem spec_l01Read.l0.st {x0 : ByteArray} {x4 : ByteArray} {x5 : Int} {x6 : Int} {r : (Int × Bool)} (H : Ev (fun k => if x6 < (x4.size : Int) then (if 0 ≤ x6 then (if (bt x4 x6) < 48 then (some (0, false)) else (if (bt x4 x6) > 57 then (some (0, false)) else (spec_l01Read.l0 k x0 x4 (wrap64 ((wrap64 ((wrap64 (10 * x5)) + (wrap64 (bt x4 x6)))) - 48)) (wrap64 (x6 + 1))))) else (none)) else (if (x4.size : Int) < (x0.size : Int) then ((spec_l01Num.f k (wrap64 (-x5))).bind fun t206 => (some (wrap64 (-x5), (t206.toList == x0.toList)))) else ((spec_l01Num.f k x5).bind fun t207 => (some (x5, (t207.toList == x0.toList)))))) r) : Ev (fun k => spec_l01Read.l0 k x0 x4 x5 x6) r := Ev.step (fun k => spec_l01Read.l0.eq_2 x0 x4 x5 x6 k) H

end Go.Proofs.YtapckgibbhijeaaGreatDoor.PA
