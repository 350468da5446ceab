/- Functions of the program, of the reference and of the statements: each as a plain Lean function, and a proof that the machine's call answers what that one answers. Written by a program: the kit's print, with contracts of our own for what it does not take. No condition. -/
import Derived.Test.YtapckgibbhijeaaGreatDoorPAx0
import Derived.Test.YtapckgibbhijeaaGreatDoorPAx2
import Derived.Test.YtapckgibbhijeaaGreatDoorPAx3
import Derived.Test.YtapckgibbhijeaaGreatDoorPAx4
namespace Go.Proofs.YtapckgibbhijeaaGreatDoor.PA
set_option maxHeartbeats 8000000
set_option maxRecDepth 100000
open Go.RowKit Go.Proofs.YtapckgibbhijeaaGreatDoorW.PrintWords Go.Proofs.YtapckgibbhijeaaGreatDoorW.PrintLast Go.Proofs.YtapckgibbhijeaaGreatDoorW.PrintMore
attribute [local go_sem] max2_int min2_int max_two min_two max_three min_three max_four min_four   -- for this text's walks alone
set_option linter.unusedVariables false
set_option linter.unusedSimpArgs false

/-! ### spec_SetupOk: function 46 -/
mutual
def spec_SetupOk.j0 : Nat → Bool → Int → Int → Int → List (S82) → List (S102) → Int → Int → List (S102) → Int → Int → Int → Int → Option (Bool)
 | 0, _, _, _, _, _, _, _, _, _, _, _, _, _ => none
 | k + 1, x21, x268000, x268001, x268002, x268003, x268004, x268005, x268006, x268007, x268008, x268009, x268010, x268011 => if x21 = true then (some false) else (spec_SetupOk.l0 k 0 x268000 x268001 x268002 x268003 x268004 x268005 x268006 x268007 x268008 x268009 x268010 x268011)
def spec_SetupOk.l0 : Nat → Int → Int → Int → Int → List (S82) → List (S102) → Int → Int → List (S102) → Int → Int → Int → Int → Option (Bool)
 | 0, _, _, _, _, _, _, _, _, _, _, _, _, _ => none
 | k + 1, x3, x268000, x268001, x268002, x268003, x268004, x268005, x268006, x268007, x268008, x268009, x268010, x268011 => if x3 < (x268003.length : Int) then (if 0 ≤ x3 then ((spec_GoalOk.f k ((rd_T82 x268003 x3).f0) ((rd_T82 x268003 x3).f1) ((rd_T82 x268003 x3).f2)).bind fun t272 => (if t272 = true then (spec_SetupOk.l1 k x3 0 x268000 x268001 x268002 x268003 x268004 x268005 x268006 x268007 x268008 x268009 x268010 x268011) else (some false))) else (none)) else (some true)
def spec_SetupOk.l1 : Nat → Int → Int → Int → Int → Int → List (S82) → List (S102) → Int → Int → List (S102) → Int → Int → Int → Int → Option (Bool)
 | 0, _, _, _, _, _, _, _, _, _, _, _, _, _, _ => none
 | k + 1, x3, x4, x268000, x268001, x268002, x268003, x268004, x268005, x268006, x268007, x268008, x268009, x268010, x268011 => if x4 < x3 then (if 0 ≤ x4 then (if x4 < (x268003.length : Int) then (if 0 ≤ x3 then (if x3 < (x268003.length : Int) then (if ((rd_T82 x268003 x4).f0).toList = ((rd_T82 x268003 x3).f0).toList then (some false) else (spec_SetupOk.l1 k x3 (wrap64 (x4 + 1)) x268000 x268001 x268002 x268003 x268004 x268005 x268006 x268007 x268008 x268009 x268010 x268011)) else (none)) else (none)) else (none)) else (none)) else (spec_SetupOk.l0 k (wrap64 (x3 + 1)) x268000 x268001 x268002 x268003 x268004 x268005 x268006 x268007 x268008 x268009 x268010 x268011)
end
def spec_SetupOk.f (k : Nat) (a0_0 : Int) (a0_1 : Int) (a0_2 : Int) (l0_3 : List (S82)) (l0_4 : List (S102)) (a0_5 : Int) (a0_6 : Int) (l0_7 : List (S102)) (a0_8 : Int) (a0_9 : Int) (a0_10 : Int) (a0_11 : Int) : Option (Bool) := (spec_RulesOk.f a0_0 a0_1 a0_2).bind fun t268 => (if t268 = true then ((spec_BehaveOk.f k l0_4 a0_5 a0_6 l0_7 a0_8 a0_9 a0_10 a0_11).bind fun t269 => (if t269 = true then ((spec_l01In.f (l0_3.length : Int) 1 3).bind fun t270 => (spec_SetupOk.j0 k (!t270) a0_0 a0_1 a0_2 l0_3 l0_4 a0_5 a0_6 l0_7 a0_8 a0_9 a0_10 a0_11)) else (spec_SetupOk.j0 k true a0_0 a0_1 a0_2 l0_3 l0_4 a0_5 a0_6 l0_7 a0_8 a0_9 a0_10 a0_11))) else (spec_SetupOk.j0 k true a0_0 a0_1 a0_2 l0_3 l0_4 a0_5 a0_6 l0_7 a0_8 a0_9 a0_10 a0_11))
theorem spec_SetupOk.mono_l : ∀ k, (∀ y0 y1 y2 y3 y4 y5 y6 y7 y8 y9 y10 y11 y12, LeO (spec_SetupOk.j0 k y0 y1 y2 y3 y4 y5 y6 y7 y8 y9 y10 y11 y12) (spec_SetupOk.j0 (k + 1) y0 y1 y2 y3 y4 y5 y6 y7 y8 y9 y10 y11 y12)) ∧ (∀ y0 y1 y2 y3 y4 y5 y6 y7 y8 y9 y10 y11 y12, LeO (spec_SetupOk.l0 k y0 y1 y2 y3 y4 y5 y6 y7 y8 y9 y10 y11 y12) (spec_SetupOk.l0 (k + 1) y0 y1 y2 y3 y4 y5 y6 y7 y8 y9 y10 y11 y12)) ∧ (∀ y0 y1 y2 y3 y4 y5 y6 y7 y8 y9 y10 y11 y12 y13, LeO (spec_SetupOk.l1 k y0 y1 y2 y3 y4 y5 y6 y7 y8 y9 y10 y11 y12 y13) (spec_SetupOk.l1 (k + 1) y0 y1 y2 y3 y4 y5 y6 y7 y8 y9 y10 y11 y12 y13))
 | 0 => ⟨fun _ _ _ _ _ _ _ _ _ _ _ _ _ r h => by simp [spec_SetupOk.j0] at h, fun _ _ _ _ _ _ _ _ _ _ _ _ _ r h => by simp [spec_SetupOk.l0] at h, fun _ _ _ _ _ _ _ _ _ _ _ _ _ _ r h => by simp [spec_SetupOk.l1] at h⟩
 | k + 1 => by
  obtain ⟨ih0, ih1, ih2⟩ := spec_SetupOk.mono_l k
  refine ⟨?_, ?_, ?_⟩
  ·intro y0 y1 y2 y3 y4 y5 y6 y7 y8 y9 y10 y11 y12
   unfold spec_SetupOk.j0
   have m0 := @spec_BehaveOk.mono
   have m1 := @spec_GoalOk.mono
   exact Pst.mo
  ·intro y0 y1 y2 y3 y4 y5 y6 y7 y8 y9 y10 y11 y12
   unfold spec_SetupOk.l0
   have m0 := @spec_BehaveOk.mono
   have m1 := @spec_GoalOk.mono
   exact Pst.mo
  intro y0 y1 y2 y3 y4 y5 y6 y7 y8 y9 y10 y11 y12 y13
  unfold spec_SetupOk.l1
  have m0 := @spec_BehaveOk.mono
  have m1 := @spec_GoalOk.mono
  exact Pst.mo
theorem spec_SetupOk.mono : ∀ a0 a1 a2 a3 a4 a5 a6 a7 a8 a9 a10 a11 k, LeO (spec_SetupOk.f k a0 a1 a2 a3 a4 a5 a6 a7 a8 a9 a10 a11) (spec_SetupOk.f (k + 1) a0 a1 a2 a3 a4 a5 a6 a7 a8 a9 a10 a11) := by
 intro a0 a1 a2 a3 a4 a5 a6 a7 a8 a9 a10 a11 k
 obtain ⟨ih0, ih1, ih2⟩ := spec_SetupOk.mono_l k
 unfold spec_SetupOk.f
 have m0 := @spec_BehaveOk.mono
 have m1 := @spec_GoalOk.mono
 exact Pst.mo
theorem spec_SetupOk.calls (k : Nat) (a0_0 : Int) (a0_1 : Int) (a0_2 : Int) (A0_3 : Option Addr) (c0_3 : Nat) (l0_3 : List (S82)) (A0_4 : Option Addr) (c0_4 : Nat) (l0_4 : List (S102)) (a0_5 : Int) (a0_6 : Int) (A0_7 : Option Addr) (c0_7 : Nat) (l0_7 : List (S102)) (a0_8 : Int) (a0_9 : Int) (a0_10 : Int) (a0_11 : Int) (r : Bool) (w : World) (hr0_3 : Kd.C k82 w A0_3 l0_3.length l0_3) (hc0_3 : l0_3.length ≤ c0_3) (hr0_4 : Kd.C k102 w A0_4 l0_4.length l0_4) (hc0_4 : l0_4.length ≤ c0_4) (hr0_7 : Kd.C k102 w A0_7 l0_7.length l0_7) (hc0_7 : l0_7.length ≤ c0_7) (h : spec_SetupOk.f k a0_0 a0_1 a0_2 l0_3 l0_4 a0_5 a0_6 l0_7 a0_8 a0_9 a0_10 a0_11 = some r) :
 Calls Tryz.prog 46 #[.agg #[.int .i64 a0_0, .int .i64 a0_1, .int .i64 a0_2, .slice A0_3 l0_3.length c0_3, .slice A0_4 l0_4.length c0_4, .int .i64 a0_5, .int .i64 a0_6, .slice A0_7 l0_7.length c0_7, .int .i64 a0_8, .int .i64 a0_9, .int .i64 a0_10, .int .i64 a0_11]] w fun e w' => e = .returned (.bool r) ∧ Below w.heap.size w w' := by
 have hu41 := Tryz.underlying41
 have hu33 := Tryz.underlying33
 have hu39 := Tryz.underlying39
 have hu82 := Tryz.underlying82
 have HR0_3 := Pst.A hr0_3
 have HC0_3 := Pst.A hc0_3
 clear hr0_3 hc0_3
 have HR0_4 := Pst.A hr0_4
 have HC0_4 := Pst.A hc0_4
 clear hr0_4 hc0_4
 have HR0_7 := Pst.A hr0_7
 have HC0_7 := Pst.A hc0_7
 clear hr0_7 hc0_7
 have HB := Pst.A (Below.refl w.heap.size w)
 have H : ((spec_RulesOk.f a0_0 a0_1 a0_2).bind fun t268 => (if t268 = true then ((spec_BehaveOk.f k l0_4 a0_5 a0_6 l0_7 a0_8 a0_9 a0_10 a0_11).bind fun t269 => (if t269 = true then ((spec_l01In.f (l0_3.length : Int) 1 3).bind fun t270 => (spec_SetupOk.j0 k (!t270) a0_0 a0_1 a0_2 l0_3 l0_4 a0_5 a0_6 l0_7 a0_8 a0_9 a0_10 a0_11)) else (spec_SetupOk.j0 k true a0_0 a0_1 a0_2 l0_3 l0_4 a0_5 a0_6 l0_7 a0_8 a0_9 a0_10 a0_11))) else (spec_SetupOk.j0 k true a0_0 a0_1 a0_2 l0_3 l0_4 a0_5 a0_6 l0_7 a0_8 a0_9 a0_10 a0_11))) = some r := h
 clear h
 have HC2 := Pst.A H
 clear H
 go_enter Tryz.func46, Tryz.ntmps46
 go_upto_region 1 with (first | ((with_reducible refine gate_dst (N := 1) rfl ?_); (try (refine gate_guard (by rfl) ?_; dsimp only)); refine Pst.bx 1 #[.int .i64 a0_0, .int .i64 a0_1, .int .i64 a0_2, .slice A0_3 l0_3.length c0_3, .slice A0_4 l0_4.length c0_4, .int .i64 a0_5, .int .i64 a0_6, .slice A0_7 l0_7.length c0_7, .int .i64 a0_8, .int .i64 a0_9, .int .i64 a0_10, .int .i64 a0_11] 41 ?_; intro gb267 hg w3 hbox hb; have BK267 := Pst.A hbox; have GW267 := Pst.A (Pst.gs hg : w.heap.size ≤ gb267); have GE267 := Pst.A (Pst.gs hg : w.heap.size ≤ gb267); replace HB := Pst.A (below_step Pst.bel hb); clear hb hbox hg))
 repeat (go_quiet (first | ((with_reducible refine gate_dst (N := 1) rfl ?_); (try (refine gate_guard (by rfl) ?_; dsimp only)); refine Pst.bx 1 #[.int .i64 a0_0, .int .i64 a0_1, .int .i64 a0_2, .slice A0_3 l0_3.length c0_3, .slice A0_4 l0_4.length c0_4, .int .i64 a0_5, .int .i64 a0_6, .slice A0_7 l0_7.length c0_7, .int .i64 a0_8, .int .i64 a0_9, .int .i64 a0_10, .int .i64 a0_11] 41 ?_; intro gb267 hg w3 hbox hb; have BK267 := Pst.A hbox; have GW267 := Pst.A (Pst.gs hg : w.heap.size ≤ gb267); have GE267 := Pst.A (Pst.gs hg : w.heap.size ≤ gb267); replace HB := Pst.A (below_step Pst.bel hb); clear hb hbox hg)); go_upto_region 1 with (first | ((with_reducible refine gate_dst (N := 1) rfl ?_); (try (refine gate_guard (by rfl) ?_; dsimp only)); refine Pst.bx 1 #[.int .i64 a0_0, .int .i64 a0_1, .int .i64 a0_2, .slice A0_3 l0_3.length c0_3, .slice A0_4 l0_4.length c0_4, .int .i64 a0_5, .int .i64 a0_6, .slice A0_7 l0_7.length c0_7, .int .i64 a0_8, .int .i64 a0_9, .int .i64 a0_10, .int .i64 a0_11] 41 ?_; intro gb267 hg w3 hbox hb; have BK267 := Pst.A hbox; have GW267 := Pst.A (Pst.gs hg : w.heap.size ≤ gb267); have GE267 := Pst.A (Pst.gs hg : w.heap.size ≤ gb267); replace HB := Pst.A (below_step Pst.bel hb); clear hb hbox hg)))
 (try simp only [Act.put, List.setIfInBounds_toArray, List.set_cons_zero, List.set_cons_succ])
 go_cut [21] (fun v21 wc => ∃ (kq : Nat) (x21_1 : Bool), v21 = .bool x21_1 ∧ Aside0 (spec_SetupOk.j0 kq x21_1 a0_0 a0_1 a0_2 l0_3 l0_4 a0_5 a0_6 l0_7 a0_8 a0_9 a0_10 a0_11 = some r) ∧ Aside0 (kq ≤ k) ∧ Aside0 (wc.heap[gb267]? = some (.cells #[.int .i64 a0_0, .int .i64 a0_1, .int .i64 a0_2, (.slice A0_3 l0_3.length c0_3), (.slice A0_4 l0_4.length c0_4), .int .i64 a0_5, .int .i64 a0_6, (.slice A0_7 l0_7.length c0_7), .int .i64 a0_8, .int .i64 a0_9, .int .i64 a0_10, .int .i64 a0_11] 41 (0, 0))) ∧ Aside0 (Below w.heap.size w wc))
 case first =>
  have H := HC2.out
  clear HC2
  obtain ⟨t268, A40, H⟩ := Pst.bd H
  have A4 := Pst.A A40
  clear A40
  by_cases c5 : t268 = true
  ·subst c5
   rw [if_pos rfl] at H
   obtain ⟨t269, A60, H⟩ := Pst.bd H
   have A6 := Pst.A A60
   clear A60
   by_cases c7 : t269 = true
   ·subst c7
    rw [if_pos rfl] at H
    obtain ⟨t270, A80, H⟩ := Pst.bd H
    have A8 := Pst.A A80
    clear A80
    have H' := Pst.A H
    clear H
    obtain ⟨hcz9_0, hcz9_1, hcz9_2, hcz9_3, hcz9_4, hcz9_5, hcz9_6, hcz9_7, hcz9_8, hcz9_9, hcz9_10, hcz9_11⟩ := Pst.c12 BK267.out
    obtain ⟨hfz9_0, hfz9_1, hfz9_2, hfz9_3, hfz9_4, hfz9_5, hfz9_6, hfz9_7, hfz9_8, hfz9_9, hfz9_10, hfz9_11⟩ := Pst.f12 BK267.out
    go_wp2_with (first | (go_at_call 69; (with_reducible refine (spec_RulesOk.calls a0_0 a0_1 a0_2 true _ A4.out).mono ?_); rintro e w10 ⟨rfl, hb⟩; replace BK267 := Pst.A (Pst.kb BK267.out hb); replace HB := Pst.A (below_step Pst.bes hb); (try clear hb); (try clear hb2); (try clear hk); (try clear hi); obtain ⟨hcz11_0, hcz11_1, hcz11_2, hcz11_3, hcz11_4, hcz11_5, hcz11_6, hcz11_7, hcz11_8, hcz11_9, hcz11_10, hcz11_11⟩ := Pst.c12 BK267.out; obtain ⟨hfz11_0, hfz11_1, hfz11_2, hfz11_3, hfz11_4, hfz11_5, hfz11_6, hfz11_7, hfz11_8, hfz11_9, hfz11_10, hfz11_11⟩ := Pst.f12 BK267.out) | (go_at_call 70; (with_reducible refine (spec_BehaveOk.calls k _ _ l0_4 a0_5 a0_6 _ _ l0_7 a0_8 a0_9 a0_10 a0_11 true _ ?side1 ?side2 ?side3 ?side4 A6.out).mono ?_); (case side1 => exact Pst.qc (Kd.C_below HR0_4.out HB.out)); (case side2 => exact HC0_4.out); (case side3 => exact Pst.qc (Kd.C_below HR0_7.out HB.out)); (case side4 => exact HC0_7.out); rintro e w12 ⟨rfl, hb⟩; replace BK267 := Pst.A (Pst.kb BK267.out hb); replace HB := Pst.A (below_step Pst.bes hb); (try clear hb); (try clear hb2); (try clear hk); (try clear hi); obtain ⟨hcz13_0, hcz13_1, hcz13_2, hcz13_3, hcz13_4, hcz13_5, hcz13_6, hcz13_7, hcz13_8, hcz13_9, hcz13_10, hcz13_11⟩ := Pst.c12 BK267.out; obtain ⟨hfz13_0, hfz13_1, hfz13_2, hfz13_3, hfz13_4, hfz13_5, hfz13_6, hfz13_7, hfz13_8, hfz13_9, hfz13_10, hfz13_11⟩ := Pst.f12 BK267.out) | (go_at_call 42; (with_reducible refine (spec_l01In.calls (l0_3.length : Int) 1 3 t270 _ A8.out).mono ?_); rintro e w' ⟨rfl, ⟨nd, rfl⟩⟩; (try first | exact ⟨rfl, _, World.drewN_drewN _ _ _⟩ | exact ⟨rfl, _, Eq.trans (World.drewN_drewN _ _ _) (congrArg (World.drewN _) (Nat.add_assoc _ _ _))⟩)))
    repeat (go_quiet (first | (go_at_call 69; (with_reducible refine (spec_RulesOk.calls a0_0 a0_1 a0_2 true _ A4.out).mono ?_); rintro e w10 ⟨rfl, hb⟩; replace BK267 := Pst.A (Pst.kb BK267.out hb); replace HB := Pst.A (below_step Pst.bes hb); (try clear hb); (try clear hb2); (try clear hk); (try clear hi); obtain ⟨hcz11_0, hcz11_1, hcz11_2, hcz11_3, hcz11_4, hcz11_5, hcz11_6, hcz11_7, hcz11_8, hcz11_9, hcz11_10, hcz11_11⟩ := Pst.c12 BK267.out; obtain ⟨hfz11_0, hfz11_1, hfz11_2, hfz11_3, hfz11_4, hfz11_5, hfz11_6, hfz11_7, hfz11_8, hfz11_9, hfz11_10, hfz11_11⟩ := Pst.f12 BK267.out) | (go_at_call 70; (with_reducible refine (spec_BehaveOk.calls k _ _ l0_4 a0_5 a0_6 _ _ l0_7 a0_8 a0_9 a0_10 a0_11 true _ ?side1 ?side2 ?side3 ?side4 A6.out).mono ?_); (case side1 => exact Pst.qc (Kd.C_below HR0_4.out HB.out)); (case side2 => exact HC0_4.out); (case side3 => exact Pst.qc (Kd.C_below HR0_7.out HB.out)); (case side4 => exact HC0_7.out); rintro e w12 ⟨rfl, hb⟩; replace BK267 := Pst.A (Pst.kb BK267.out hb); replace HB := Pst.A (below_step Pst.bes hb); (try clear hb); (try clear hb2); (try clear hk); (try clear hi); obtain ⟨hcz13_0, hcz13_1, hcz13_2, hcz13_3, hcz13_4, hcz13_5, hcz13_6, hcz13_7, hcz13_8, hcz13_9, hcz13_10, hcz13_11⟩ := Pst.c12 BK267.out; obtain ⟨hfz13_0, hfz13_1, hfz13_2, hfz13_3, hfz13_4, hfz13_5, hfz13_6, hfz13_7, hfz13_8, hfz13_9, hfz13_10, hfz13_11⟩ := Pst.f12 BK267.out) | (go_at_call 42; (with_reducible refine (spec_l01In.calls (l0_3.length : Int) 1 3 t270 _ A8.out).mono ?_); rintro e w' ⟨rfl, ⟨nd, rfl⟩⟩; (try first | exact ⟨rfl, _, World.drewN_drewN _ _ _⟩ | exact ⟨rfl, _, Eq.trans (World.drewN_drewN _ _ _) (congrArg (World.drewN _) (Nat.add_assoc _ _ _))⟩))); try go_wp2_with (first | (go_at_call 69; (with_reducible refine (spec_RulesOk.calls a0_0 a0_1 a0_2 true _ A4.out).mono ?_); rintro e w10 ⟨rfl, hb⟩; replace BK267 := Pst.A (Pst.kb BK267.out hb); replace HB := Pst.A (below_step Pst.bes hb); (try clear hb); (try clear hb2); (try clear hk); (try clear hi); obtain ⟨hcz11_0, hcz11_1, hcz11_2, hcz11_3, hcz11_4, hcz11_5, hcz11_6, hcz11_7, hcz11_8, hcz11_9, hcz11_10, hcz11_11⟩ := Pst.c12 BK267.out; obtain ⟨hfz11_0, hfz11_1, hfz11_2, hfz11_3, hfz11_4, hfz11_5, hfz11_6, hfz11_7, hfz11_8, hfz11_9, hfz11_10, hfz11_11⟩ := Pst.f12 BK267.out) | (go_at_call 70; (with_reducible refine (spec_BehaveOk.calls k _ _ l0_4 a0_5 a0_6 _ _ l0_7 a0_8 a0_9 a0_10 a0_11 true _ ?side1 ?side2 ?side3 ?side4 A6.out).mono ?_); (case side1 => exact Pst.qc (Kd.C_below HR0_4.out HB.out)); (case side2 => exact HC0_4.out); (case side3 => exact Pst.qc (Kd.C_below HR0_7.out HB.out)); (case side4 => exact HC0_7.out); rintro e w12 ⟨rfl, hb⟩; replace BK267 := Pst.A (Pst.kb BK267.out hb); replace HB := Pst.A (below_step Pst.bes hb); (try clear hb); (try clear hb2); (try clear hk); (try clear hi); obtain ⟨hcz13_0, hcz13_1, hcz13_2, hcz13_3, hcz13_4, hcz13_5, hcz13_6, hcz13_7, hcz13_8, hcz13_9, hcz13_10, hcz13_11⟩ := Pst.c12 BK267.out; obtain ⟨hfz13_0, hfz13_1, hfz13_2, hfz13_3, hfz13_4, hfz13_5, hfz13_6, hfz13_7, hfz13_8, hfz13_9, hfz13_10, hfz13_11⟩ := Pst.f12 BK267.out) | (go_at_call 42; (with_reducible refine (spec_l01In.calls (l0_3.length : Int) 1 3 t270 _ A8.out).mono ?_); rintro e w' ⟨rfl, ⟨nd, rfl⟩⟩; (try first | exact ⟨rfl, _, World.drewN_drewN _ _ _⟩ | exact ⟨rfl, _, Eq.trans (World.drewN_drewN _ _ _) (congrArg (World.drewN _) (Nat.add_assoc _ _ _))⟩))))
    go_meet
    case rel => exact ⟨_, (!t270), Pst.e2, H', ⟨by first | omega | exact Nat.le_refl _⟩, ⟨by exact Pst.qb BK267.out⟩, ⟨Pst.bes⟩⟩
   replace c7 := Bool.eq_false_iff.mpr c7
   subst c7
   rw [if_neg Pst.ft] at H
   have H' := Pst.A H
   clear H
   obtain ⟨hcz14_0, hcz14_1, hcz14_2, hcz14_3, hcz14_4, hcz14_5, hcz14_6, hcz14_7, hcz14_8, hcz14_9, hcz14_10, hcz14_11⟩ := Pst.c12 BK267.out
   obtain ⟨hfz14_0, hfz14_1, hfz14_2, hfz14_3, hfz14_4, hfz14_5, hfz14_6, hfz14_7, hfz14_8, hfz14_9, hfz14_10, hfz14_11⟩ := Pst.f12 BK267.out
   go_wp2_with (first | (go_at_call 69; (with_reducible refine (spec_RulesOk.calls a0_0 a0_1 a0_2 true _ A4.out).mono ?_); rintro e w15 ⟨rfl, hb⟩; replace BK267 := Pst.A (Pst.kb BK267.out hb); replace HB := Pst.A (below_step Pst.bes hb); (try clear hb); (try clear hb2); (try clear hk); (try clear hi); obtain ⟨hcz16_0, hcz16_1, hcz16_2, hcz16_3, hcz16_4, hcz16_5, hcz16_6, hcz16_7, hcz16_8, hcz16_9, hcz16_10, hcz16_11⟩ := Pst.c12 BK267.out; obtain ⟨hfz16_0, hfz16_1, hfz16_2, hfz16_3, hfz16_4, hfz16_5, hfz16_6, hfz16_7, hfz16_8, hfz16_9, hfz16_10, hfz16_11⟩ := Pst.f12 BK267.out) | (go_at_call 70; (with_reducible refine (spec_BehaveOk.calls k _ _ l0_4 a0_5 a0_6 _ _ l0_7 a0_8 a0_9 a0_10 a0_11 false _ ?side1 ?side2 ?side3 ?side4 A6.out).mono ?_); (case side1 => exact Pst.qc (Kd.C_below HR0_4.out HB.out)); (case side2 => exact HC0_4.out); (case side3 => exact Pst.qc (Kd.C_below HR0_7.out HB.out)); (case side4 => exact HC0_7.out); rintro e w17 ⟨rfl, hb⟩; replace BK267 := Pst.A (Pst.kb BK267.out hb); replace HB := Pst.A (below_step Pst.bes hb); (try clear hb); (try clear hb2); (try clear hk); (try clear hi)))
   repeat (go_quiet (first | (go_at_call 69; (with_reducible refine (spec_RulesOk.calls a0_0 a0_1 a0_2 true _ A4.out).mono ?_); rintro e w15 ⟨rfl, hb⟩; replace BK267 := Pst.A (Pst.kb BK267.out hb); replace HB := Pst.A (below_step Pst.bes hb); (try clear hb); (try clear hb2); (try clear hk); (try clear hi); obtain ⟨hcz16_0, hcz16_1, hcz16_2, hcz16_3, hcz16_4, hcz16_5, hcz16_6, hcz16_7, hcz16_8, hcz16_9, hcz16_10, hcz16_11⟩ := Pst.c12 BK267.out; obtain ⟨hfz16_0, hfz16_1, hfz16_2, hfz16_3, hfz16_4, hfz16_5, hfz16_6, hfz16_7, hfz16_8, hfz16_9, hfz16_10, hfz16_11⟩ := Pst.f12 BK267.out) | (go_at_call 70; (with_reducible refine (spec_BehaveOk.calls k _ _ l0_4 a0_5 a0_6 _ _ l0_7 a0_8 a0_9 a0_10 a0_11 false _ ?side1 ?side2 ?side3 ?side4 A6.out).mono ?_); (case side1 => exact Pst.qc (Kd.C_below HR0_4.out HB.out)); (case side2 => exact HC0_4.out); (case side3 => exact Pst.qc (Kd.C_below HR0_7.out HB.out)); (case side4 => exact HC0_7.out); rintro e w17 ⟨rfl, hb⟩; replace BK267 := Pst.A (Pst.kb BK267.out hb); replace HB := Pst.A (below_step Pst.bes hb); (try clear hb); (try clear hb2); (try clear hk); (try clear hi))); try go_wp2_with (first | (go_at_call 69; (with_reducible refine (spec_RulesOk.calls a0_0 a0_1 a0_2 true _ A4.out).mono ?_); rintro e w15 ⟨rfl, hb⟩; replace BK267 := Pst.A (Pst.kb BK267.out hb); replace HB := Pst.A (below_step Pst.bes hb); (try clear hb); (try clear hb2); (try clear hk); (try clear hi); obtain ⟨hcz16_0, hcz16_1, hcz16_2, hcz16_3, hcz16_4, hcz16_5, hcz16_6, hcz16_7, hcz16_8, hcz16_9, hcz16_10, hcz16_11⟩ := Pst.c12 BK267.out; obtain ⟨hfz16_0, hfz16_1, hfz16_2, hfz16_3, hfz16_4, hfz16_5, hfz16_6, hfz16_7, hfz16_8, hfz16_9, hfz16_10, hfz16_11⟩ := Pst.f12 BK267.out) | (go_at_call 70; (with_reducible refine (spec_BehaveOk.calls k _ _ l0_4 a0_5 a0_6 _ _ l0_7 a0_8 a0_9 a0_10 a0_11 false _ ?side1 ?side2 ?side3 ?side4 A6.out).mono ?_); (case side1 => exact Pst.qc (Kd.C_below HR0_4.out HB.out)); (case side2 => exact HC0_4.out); (case side3 => exact Pst.qc (Kd.C_below HR0_7.out HB.out)); (case side4 => exact HC0_7.out); rintro e w17 ⟨rfl, hb⟩; replace BK267 := Pst.A (Pst.kb BK267.out hb); replace HB := Pst.A (below_step Pst.bes hb); (try clear hb); (try clear hb2); (try clear hk); (try clear hi))))
   go_meet
   case rel => exact ⟨_, (true), Pst.e2, H', ⟨by first | omega | exact Nat.le_refl _⟩, ⟨by exact Pst.qb BK267.out⟩, ⟨Pst.bes⟩⟩
  replace c5 := Bool.eq_false_iff.mpr c5
  subst c5
  rw [if_neg Pst.ft] at H
  have H' := Pst.A H
  clear H
  obtain ⟨hcz18_0, hcz18_1, hcz18_2, hcz18_3, hcz18_4, hcz18_5, hcz18_6, hcz18_7, hcz18_8, hcz18_9, hcz18_10, hcz18_11⟩ := Pst.c12 BK267.out
  obtain ⟨hfz18_0, hfz18_1, hfz18_2, hfz18_3, hfz18_4, hfz18_5, hfz18_6, hfz18_7, hfz18_8, hfz18_9, hfz18_10, hfz18_11⟩ := Pst.f12 BK267.out
  go_wp2_with (first | (go_at_call 69; (with_reducible refine (spec_RulesOk.calls a0_0 a0_1 a0_2 false _ A4.out).mono ?_); rintro e w19 ⟨rfl, hb⟩; replace BK267 := Pst.A (Pst.kb BK267.out hb); replace HB := Pst.A (below_step Pst.bes hb); (try clear hb); (try clear hb2); (try clear hk); (try clear hi)))
  repeat (go_quiet (first | (go_at_call 69; (with_reducible refine (spec_RulesOk.calls a0_0 a0_1 a0_2 false _ A4.out).mono ?_); rintro e w19 ⟨rfl, hb⟩; replace BK267 := Pst.A (Pst.kb BK267.out hb); replace HB := Pst.A (below_step Pst.bes hb); (try clear hb); (try clear hb2); (try clear hk); (try clear hi))); try go_wp2_with (first | (go_at_call 69; (with_reducible refine (spec_RulesOk.calls a0_0 a0_1 a0_2 false _ A4.out).mono ?_); rintro e w19 ⟨rfl, hb⟩; replace BK267 := Pst.A (Pst.kb BK267.out hb); replace HB := Pst.A (below_step Pst.bes hb); (try clear hb); (try clear hb2); (try clear hk); (try clear hi))))
  go_meet
  case rel => exact ⟨_, (true), Pst.e2, H', ⟨by first | omega | exact Nat.le_refl _⟩, ⟨by exact Pst.qb BK267.out⟩, ⟨Pst.bes⟩⟩
 clear HC2
 try clear p2
 try clear c4
 try clear c5
 try clear c7
 obtain ⟨kq, x21_1, rfl, HA, HJ1, BK267, HB⟩ := hcut
 cases kq with
 | zero => exact absurd HA.out (by simp [spec_SetupOk.j0])
 | succ kj1 =>
  have H := HA.out
  clear HA
  simp only [spec_SetupOk.j0] at H
  by_cases c20 : x21_1 = true
  ·subst c20
   rw [if_pos rfl] at H
   obtain rfl := Option.some.inj H
   go_wp2
   repeat (go_quiet (fail); try go_wp2)
   go_ret
   exact ⟨Pst.e1, Pst.bes⟩
  replace c20 := Bool.eq_false_iff.mpr c20
  subst c20
  rw [if_neg Pst.ft] at H
  have H' := Pst.A H
  clear H
  go_wp2
  repeat (go_quiet (fail); try go_wp2)
  go_loopg [3] kj1 (fun kq v3 w' => ∃ (x3_2 : Int), v3 = .int .i64 x3_2 ∧ Aside0 (spec_SetupOk.l0 kq x3_2 a0_0 a0_1 a0_2 l0_3 l0_4 a0_5 a0_6 l0_7 a0_8 a0_9 a0_10 a0_11 = some r) ∧ Aside0 (kq ≤ kj1) ∧ Aside0 (w'.heap[gb267]? = some (.cells #[.int .i64 a0_0, .int .i64 a0_1, .int .i64 a0_2, (.slice A0_3 l0_3.length c0_3), (.slice A0_4 l0_4.length c0_4), .int .i64 a0_5, .int .i64 a0_6, (.slice A0_7 l0_7.length c0_7), .int .i64 a0_8, .int .i64 a0_9, .int .i64 a0_10, .int .i64 a0_11] 41 (0, 0))) ∧ Aside0 (Below w.heap.size w w'))
  case atStart => exact ⟨(0), Pst.e2, H', ⟨Nat.le_refl _⟩, ⟨by exact Pst.qb BK267.out⟩, ⟨Pst.bes⟩⟩
  clear H'
  try clear c2
  try clear p2
  try clear c4
  try clear c5
  try clear c7
  try clear c20
  try clear p2
  obtain ⟨x3_2, rfl, HA, HK2, BK267, HB⟩ := hrel
  cases gk with
  | zero => exact absurd HA.out (by simp [spec_SetupOk.l0])
  | succ k2 =>
   have H := HA.out
   clear HA
   simp only [spec_SetupOk.l0] at H
   by_cases c21 : x3_2 < (l0_3.length : Int)
   ·rw [if_pos c21] at H
    have c21b0 : decide (x3_2 < (l0_3.length : Int)) = true := decide_eq_true c21
    clear c21
    by_cases c22 : 0 ≤ x3_2
    ·rw [if_pos c22] at H
     have c22b0 : decide (0 ≤ x3_2) = true := decide_eq_true c22
     clear c22
     obtain ⟨t272, A230, H⟩ := Pst.bd H
     have A23 := Pst.A A230
     clear A230
     by_cases c24 : t272 = true
     ·subst c24
      rw [if_pos rfl] at H
      have H' := Pst.A H
      clear H
      obtain ⟨hcz25_0, hcz25_1, hcz25_2, hcz25_3, hcz25_4, hcz25_5, hcz25_6, hcz25_7, hcz25_8, hcz25_9, hcz25_10, hcz25_11⟩ := Pst.c12 BK267.out
      obtain ⟨hfz25_0, hfz25_1, hfz25_2, hfz25_3, hfz25_4, hfz25_5, hfz25_6, hfz25_7, hfz25_8, hfz25_9, hfz25_10, hfz25_11⟩ := Pst.f12 BK267.out
      have p271 : 0 ≤ (x3_2 : Int) := Pst.da
      have q271 : x3_2 < (l0_3.length : Int) := Pst.da
      obtain ⟨ad271, e271, hx271_0, hx271_1, hx271_2⟩ := at_T82 HR0_3.out x3_2 p271 q271
      cases e271
      replace hx271_0 := (HB.out.cell (World.block_lt_of_cell? w _ hx271_0)).trans hx271_0
      replace hx271_1 := (HB.out.cell (World.block_lt_of_cell? w _ hx271_1)).trans hx271_1
      replace hx271_2 := (HB.out.cell (World.block_lt_of_cell? w _ hx271_2)).trans hx271_2
      replace p271 := eq_true p271
      replace q271 := eq_true q271
      go_wp2_with (first | (go_at_call 71; (with_reducible refine (spec_GoalOk.calls k2 ((rd_T82 l0_3 x3_2).f0) ((rd_T82 l0_3 x3_2).f1) ((rd_T82 l0_3 x3_2).f2) true _ A23.out).mono ?_); rintro e w26 ⟨rfl, hb⟩; replace BK267 := Pst.A (Pst.kb BK267.out hb); replace HB := Pst.A (below_step Pst.bes hb); (try clear hb); (try clear hb2); (try clear hk); (try clear hi)))
      repeat (go_quiet (first | (go_at_call 71; (with_reducible refine (spec_GoalOk.calls k2 ((rd_T82 l0_3 x3_2).f0) ((rd_T82 l0_3 x3_2).f1) ((rd_T82 l0_3 x3_2).f2) true _ A23.out).mono ?_); rintro e w26 ⟨rfl, hb⟩; replace BK267 := Pst.A (Pst.kb BK267.out hb); replace HB := Pst.A (below_step Pst.bes hb); (try clear hb); (try clear hb2); (try clear hk); (try clear hi))); try go_wp2_with (first | (go_at_call 71; (with_reducible refine (spec_GoalOk.calls k2 ((rd_T82 l0_3 x3_2).f0) ((rd_T82 l0_3 x3_2).f1) ((rd_T82 l0_3 x3_2).f2) true _ A23.out).mono ?_); rintro e w26 ⟨rfl, hb⟩; replace BK267 := Pst.A (Pst.kb BK267.out hb); replace HB := Pst.A (below_step Pst.bes hb); (try clear hb); (try clear hb2); (try clear hk); (try clear hi))))
      go_loopg [4] k2 (fun kq v4 w' => ∃ (x4_3 : Int), v4 = .int .i64 x4_3 ∧ Aside0 (spec_SetupOk.l1 kq x3_2 x4_3 a0_0 a0_1 a0_2 l0_3 l0_4 a0_5 a0_6 l0_7 a0_8 a0_9 a0_10 a0_11 = some r) ∧ Aside0 (kq ≤ k2) ∧ Aside0 (w'.heap[gb267]? = some (.cells #[.int .i64 a0_0, .int .i64 a0_1, .int .i64 a0_2, (.slice (some ad271) l0_3.length c0_3), (.slice A0_4 l0_4.length c0_4), .int .i64 a0_5, .int .i64 a0_6, (.slice A0_7 l0_7.length c0_7), .int .i64 a0_8, .int .i64 a0_9, .int .i64 a0_10, .int .i64 a0_11] 41 (0, 0))) ∧ Aside0 (Below w.heap.size w w'))
      case atStart => exact ⟨(0), Pst.e2, H', ⟨Nat.le_refl _⟩, ⟨by exact Pst.qb BK267.out⟩, ⟨Pst.bes⟩⟩
      clear H'
      try clear c2
      try clear p2
      try clear q2
      try clear hx2
      try clear c4
      try clear c5
      try clear c7
      try clear c20
      try clear c21
      try clear c21b0
      try clear c22
      try clear c22b0
      try clear c24
      try clear hx271_0
      try clear hx271_1
      try clear hx271_2
      try clear p2
      try clear p271
      try clear q271
      obtain ⟨x4_3, rfl, HA, HK3, BK267, HB⟩ := hrel
      cases gk with
      | zero => exact absurd HA.out (by simp [spec_SetupOk.l1])
      | succ k3 =>
       have H := HA.out
       clear HA
       simp only [spec_SetupOk.l1] at H
       by_cases c27 : x4_3 < x3_2
       ·rw [if_pos c27] at H
        have c27b0 : decide (x4_3 < x3_2) = true := decide_eq_true c27
        clear c27
        by_cases c28 : 0 ≤ x4_3
        ·rw [if_pos c28] at H
         have c28b0 : decide (0 ≤ x4_3) = true := decide_eq_true c28
         clear c28
         by_cases c29 : x4_3 < (l0_3.length : Int)
         ·rw [if_pos c29] at H
          have c29b0 : decide (x4_3 < (l0_3.length : Int)) = true := decide_eq_true c29
          clear c29
          by_cases c30 : 0 ≤ x3_2
          ·rw [if_pos c30] at H
           have c30b0 : decide (0 ≤ x3_2) = true := decide_eq_true c30
           clear c30
           by_cases c31 : x3_2 < (l0_3.length : Int)
           ·rw [if_pos c31] at H
            have c31b0 : decide (x3_2 < (l0_3.length : Int)) = true := decide_eq_true c31
            clear c31
            by_cases c32 : ((rd_T82 l0_3 x4_3).f0).toList = ((rd_T82 l0_3 x3_2).f0).toList
            ·rw [if_pos c32] at H
             have c32b0 : (((rd_T82 l0_3 x4_3).f0).toList == ((rd_T82 l0_3 x3_2).f0).toList) = true := beq_iff_eq.mpr c32
             have c32b1 : (((rd_T82 l0_3 x4_3).f0).toList != ((rd_T82 l0_3 x3_2).f0).toList) = false := bne_eq_false_iff_eq.mpr c32
             clear c32
             obtain rfl := Option.some.inj H
             obtain ⟨hcz33_0, hcz33_1, hcz33_2, hcz33_3, hcz33_4, hcz33_5, hcz33_6, hcz33_7, hcz33_8, hcz33_9, hcz33_10, hcz33_11⟩ := Pst.c12 BK267.out
             obtain ⟨hfz33_0, hfz33_1, hfz33_2, hfz33_3, hfz33_4, hfz33_5, hfz33_6, hfz33_7, hfz33_8, hfz33_9, hfz33_10, hfz33_11⟩ := Pst.f12 BK267.out
             have p273 : 0 ≤ (x4_3 : Int) := Pst.da
             have q273 : x4_3 < (l0_3.length : Int) := Pst.da
             obtain ⟨ad273, e273, hx273_0, hx273_1, hx273_2⟩ := at_T82 HR0_3.out x4_3 p273 q273
             obtain rfl : ad271 = ad273 := (by injection e273)
             replace hx273_0 := (HB.out.cell (World.block_lt_of_cell? w _ hx273_0)).trans hx273_0
             replace hx273_1 := (HB.out.cell (World.block_lt_of_cell? w _ hx273_1)).trans hx273_1
             replace hx273_2 := (HB.out.cell (World.block_lt_of_cell? w _ hx273_2)).trans hx273_2
             replace p273 := eq_true p273
             replace q273 := eq_true q273
             have p274 : 0 ≤ (x3_2 : Int) := Pst.da
             have q274 : x3_2 < (l0_3.length : Int) := Pst.da
             obtain ⟨ad274, e274, hx274_0, hx274_1, hx274_2⟩ := at_T82 HR0_3.out x3_2 p274 q274
             obtain rfl : ad271 = ad274 := (by injection e274)
             replace hx274_0 := (HB.out.cell (World.block_lt_of_cell? w _ hx274_0)).trans hx274_0
             replace hx274_1 := (HB.out.cell (World.block_lt_of_cell? w _ hx274_1)).trans hx274_1
             replace hx274_2 := (HB.out.cell (World.block_lt_of_cell? w _ hx274_2)).trans hx274_2
             replace p274 := eq_true p274
             replace q274 := eq_true q274
             go_wp2
             repeat (go_quiet (fail); try go_wp2)
             go_ret
             exact ⟨Pst.e1, Pst.bes⟩
            rw [if_neg c32] at H
            have c32b0 : (((rd_T82 l0_3 x4_3).f0).toList == ((rd_T82 l0_3 x3_2).f0).toList) = false := beq_eq_false_iff_ne.mpr c32
            have c32b1 : (((rd_T82 l0_3 x4_3).f0).toList != ((rd_T82 l0_3 x3_2).f0).toList) = true := bne_iff_ne.mpr c32
            have H' := Pst.A H
            clear H
            obtain ⟨hcz34_0, hcz34_1, hcz34_2, hcz34_3, hcz34_4, hcz34_5, hcz34_6, hcz34_7, hcz34_8, hcz34_9, hcz34_10, hcz34_11⟩ := Pst.c12 BK267.out
            obtain ⟨hfz34_0, hfz34_1, hfz34_2, hfz34_3, hfz34_4, hfz34_5, hfz34_6, hfz34_7, hfz34_8, hfz34_9, hfz34_10, hfz34_11⟩ := Pst.f12 BK267.out
            have p273 : 0 ≤ (x4_3 : Int) := Pst.da
            have q273 : x4_3 < (l0_3.length : Int) := Pst.da
            obtain ⟨ad273, e273, hx273_0, hx273_1, hx273_2⟩ := at_T82 HR0_3.out x4_3 p273 q273
            obtain rfl : ad271 = ad273 := (by injection e273)
            replace hx273_0 := (HB.out.cell (World.block_lt_of_cell? w _ hx273_0)).trans hx273_0
            replace hx273_1 := (HB.out.cell (World.block_lt_of_cell? w _ hx273_1)).trans hx273_1
            replace hx273_2 := (HB.out.cell (World.block_lt_of_cell? w _ hx273_2)).trans hx273_2
            replace p273 := eq_true p273
            replace q273 := eq_true q273
            have p274 : 0 ≤ (x3_2 : Int) := Pst.da
            have q274 : x3_2 < (l0_3.length : Int) := Pst.da
            obtain ⟨ad274, e274, hx274_0, hx274_1, hx274_2⟩ := at_T82 HR0_3.out x3_2 p274 q274
            obtain rfl : ad271 = ad274 := (by injection e274)
            replace hx274_0 := (HB.out.cell (World.block_lt_of_cell? w _ hx274_0)).trans hx274_0
            replace hx274_1 := (HB.out.cell (World.block_lt_of_cell? w _ hx274_1)).trans hx274_1
            replace hx274_2 := (HB.out.cell (World.block_lt_of_cell? w _ hx274_2)).trans hx274_2
            replace p274 := eq_true p274
            replace q274 := eq_true q274
            go_wp2
            repeat (go_quiet (fail); try go_wp2)
            go_roundg k3
            case measure => have := HJ1.out; have := HK2.out; have := HK3.out; omega
            case rel => exact ⟨(wrap64 (x4_3 + 1)), Pst.e2, H', ⟨by have := HJ1.out; have := HK2.out; have := HK3.out; omega⟩, ⟨by exact Pst.qb BK267.out⟩, ⟨Pst.bes⟩⟩
           rw [if_neg c31] at H
           exact absurd H (by simp)
          rw [if_neg c30] at H
          exact absurd H (by simp)
         rw [if_neg c29] at H
         exact absurd H (by simp)
        rw [if_neg c28] at H
        exact absurd H (by simp)
       rw [if_neg c27] at H
       have c27b0 : decide (x4_3 < x3_2) = false := decide_eq_false c27
       clear c27
       have H' := Pst.A H
       clear H
       go_wp2
       repeat (go_quiet (fail); try go_wp2)
       go_roundg k3
       case measure => have := HJ1.out; have := HK2.out; have := HK3.out; omega
       case rel => exact ⟨(wrap64 (x3_2 + 1)), Pst.e2, H', ⟨by have := HJ1.out; have := HK2.out; have := HK3.out; omega⟩, ⟨by exact Pst.qb BK267.out⟩, ⟨Pst.bes⟩⟩
     replace c24 := Bool.eq_false_iff.mpr c24
     subst c24
     rw [if_neg Pst.ft] at H
     obtain rfl := Option.some.inj H
     obtain ⟨hcz35_0, hcz35_1, hcz35_2, hcz35_3, hcz35_4, hcz35_5, hcz35_6, hcz35_7, hcz35_8, hcz35_9, hcz35_10, hcz35_11⟩ := Pst.c12 BK267.out
     obtain ⟨hfz35_0, hfz35_1, hfz35_2, hfz35_3, hfz35_4, hfz35_5, hfz35_6, hfz35_7, hfz35_8, hfz35_9, hfz35_10, hfz35_11⟩ := Pst.f12 BK267.out
     have p271 : 0 ≤ (x3_2 : Int) := Pst.da
     have q271 : x3_2 < (l0_3.length : Int) := Pst.da
     obtain ⟨ad271, e271, hx271_0, hx271_1, hx271_2⟩ := at_T82 HR0_3.out x3_2 p271 q271
     cases e271
     replace hx271_0 := (HB.out.cell (World.block_lt_of_cell? w _ hx271_0)).trans hx271_0
     replace hx271_1 := (HB.out.cell (World.block_lt_of_cell? w _ hx271_1)).trans hx271_1
     replace hx271_2 := (HB.out.cell (World.block_lt_of_cell? w _ hx271_2)).trans hx271_2
     replace p271 := eq_true p271
     replace q271 := eq_true q271
     go_wp2_with (first | (go_at_call 71; (with_reducible refine (spec_GoalOk.calls k2 ((rd_T82 l0_3 x3_2).f0) ((rd_T82 l0_3 x3_2).f1) ((rd_T82 l0_3 x3_2).f2) false _ A23.out).mono ?_); rintro e w36 ⟨rfl, hb⟩; replace BK267 := Pst.A (Pst.kb BK267.out hb); replace HB := Pst.A (below_step Pst.bes hb); (try clear hb); (try clear hb2); (try clear hk); (try clear hi)))
     repeat (go_quiet (first | (go_at_call 71; (with_reducible refine (spec_GoalOk.calls k2 ((rd_T82 l0_3 x3_2).f0) ((rd_T82 l0_3 x3_2).f1) ((rd_T82 l0_3 x3_2).f2) false _ A23.out).mono ?_); rintro e w36 ⟨rfl, hb⟩; replace BK267 := Pst.A (Pst.kb BK267.out hb); replace HB := Pst.A (below_step Pst.bes hb); (try clear hb); (try clear hb2); (try clear hk); (try clear hi))); try go_wp2_with (first | (go_at_call 71; (with_reducible refine (spec_GoalOk.calls k2 ((rd_T82 l0_3 x3_2).f0) ((rd_T82 l0_3 x3_2).f1) ((rd_T82 l0_3 x3_2).f2) false _ A23.out).mono ?_); rintro e w36 ⟨rfl, hb⟩; replace BK267 := Pst.A (Pst.kb BK267.out hb); replace HB := Pst.A (below_step Pst.bes hb); (try clear hb); (try clear hb2); (try clear hk); (try clear hi))))
     go_ret
     exact ⟨Pst.e1, Pst.bes⟩
    rw [if_neg c22] at H
    exact absurd H (by simp)
   rw [if_neg c21] at H
   have c21b0 : decide (x3_2 < (l0_3.length : Int)) = false := decide_eq_false c21
   clear c21
   obtain rfl := Option.some.inj H
   obtain ⟨hcz37_0, hcz37_1, hcz37_2, hcz37_3, hcz37_4, hcz37_5, hcz37_6, hcz37_7, hcz37_8, hcz37_9, hcz37_10, hcz37_11⟩ := Pst.c12 BK267.out
   obtain ⟨hfz37_0, hfz37_1, hfz37_2, hfz37_3, hfz37_4, hfz37_5, hfz37_6, hfz37_7, hfz37_8, hfz37_9, hfz37_10, hfz37_11⟩ := Pst.f12 BK267.out
   go_wp2
   repeat (go_quiet (fail); try go_wp2)
   go_ret
   exact ⟨Pst.e1, Pst.bes⟩
theorem spec_SetupOk.j0.st {x21 : Bool} {x268000 : Int} {x268001 : Int} {x268002 : Int} {x268003 : List (S82)} {x268004 : List (S102)} {x268005 : Int} {x268006 : Int} {x268007 : List (S102)} {x268008 : Int} {x268009 : Int} {x268010 : Int} {x268011 : Int} {r : (Bool)} (H : Ev (fun k => if x21 = true then (some false) else (spec_SetupOk.l0 k 0 x268000 x268001 x268002 x268003 x268004 x268005 x268006 x268007 x268008 x268009 x268010 x268011)) r) : Ev (fun k => spec_SetupOk.j0 k x21 x268000 x268001 x268002 x268003 x268004 x268005 x268006 x268007 x268008 x268009 x268010 x268011) r := Ev.step (fun k => spec_SetupOk.j0.eq_2 x21 x268000 x268001 x268002 x268003 x268004 x268005 x268006 x268007 x268008 x268009 x268010 x268011 k) H
theorem spec_SetupOk.l0.st {x3 : Int} {x268000 : Int} {x268001 : Int} {x268002 : Int} {x268003 : List (S82)} {x268004 : List (S102)} {x268005 : Int} {x268006 : Int} {x268007 : List (S102)} {x268008 : Int} {x268009 : Int} {x268010 : Int} {x268011 : Int} {r : (Bool)} (H : Ev (fun k => if x3 < (x268003.length : Int) then (if 0 ≤ x3 then ((spec_GoalOk.f k ((rd_T82 x268003 x3).f0) ((rd_T82 x268003 x3).f1) ((rd_T82 x268003 x3).f2)).bind fun t272 => (if t272 = true then (spec_SetupOk.l1 k x3 0 x268000 x268001 x268002 x268003 x268004 x268005 x268006 x268007 x268008 x268009 x268010 x268011) else (some false))) else (none)) else (some true)) r) : Ev (fun k => spec_SetupOk.l0 k x3 x268000 x268001 x268002 x268003 x268004 x268005 x268006 x268007 x268008 x268009 x268010 x268011) r := Ev.step (fun k => spec_SetupOk.l0.eq_2 x3 x268000 x268001 x268002 x268003 x268004 x268005 x268006 x268007 x268008 x268009 x268010 x268011 k) H
theorem spec_SetupOk.l1.st {x3 : Int} {x4 : Int} {x268000 : Int} {x268001 : Int} {x268002 : Int} {x268003 : List (S82)} {x268004 : List (S102)} {x268005 : Int} {x268006 : Int} {x268007 : List (S102)} {x268008 : Int} {x268009 : Int} {x268010 : Int} {x268011 : Int} {r : (Bool)} (H : Ev (fun k => if x4 < x3 then (if 0 ≤ x4 then (if x4 < (x268003.length : Int) then (if 0 ≤ x3 then (if x3 < (x268003.length : Int) then (if ((rd_T82 x268003 x4).f0).toList = ((rd_T82 x268003 x3).f0).toList then (some false) else (spec_SetupOk.l1 k x3 (wrap64 (x4 + 1)) x268000 x268001 x268002 x268003 x268004 x268005 x268006 x268007 x268008 x268009 x268010 x268011)) else (none)) else (none)) else (none)) else (none)) else (spec_SetupOk.l0 k (wrap64 (x3 + 1)) x268000 x268001 x268002 x268003 x268004 x268005 x268006 x268007 x268008 x268009 x268010 x268011)) r) : Ev (fun k => spec_SetupOk.l1 k x3 x4 x268000 x268001 x268002 x268003 x268004 x268005 x268006 x268007 x268008 x268009 x268010 x268011) r := Ev.step (fun k => spec_SetupOk.l1.eq_2 x3 x4 x268000 x268001 x268002 x268003 x268004 x268005 x268006 x268007 x268008 x268009 x268010 x268011 k) H

/-! ### spec_WorldOk: function 19 -/
mutual
def spec_WorldOk.j0 : Nat → Bool → Int → Int → Int → List (S82) → List (S102) → Int → Int → List (S102) → Int → Int → Int → Int → List Int → Int → Int → Int → Option (Bool)
 | 0, _, _, _, _, _, _, _, _, _, _, _, _, _, _, _, _, _ => none
 | k + 1, x48, x276000, x276001, x276002, x276003, x276004, x276005, x276006, x276007, x276008, x276009, x276010, x276011, x276012, x276013, x276014, x276015 => if x48 = true then (some false) else (spec_WorldOk.l0 k 0 x276000 x276001 x276002 x276003 x276004 x276005 x276006 x276007 x276008 x276009 x276010 x276011 x276012 x276013 x276014 x276015)
def spec_WorldOk.l0 : Nat → Int → Int → Int → Int → List (S82) → List (S102) → Int → Int → List (S102) → Int → Int → Int → Int → List Int → Int → Int → Int → Option (Bool)
 | 0, _, _, _, _, _, _, _, _, _, _, _, _, _, _, _, _, _ => none
 | k + 1, x3, x276000, x276001, x276002, x276003, x276004, x276005, x276006, x276007, x276008, x276009, x276010, x276011, x276012, x276013, x276014, x276015 => if x3 < (x276012.length : Int) then (if 0 ≤ x3 then ((spec_l01In.f (rd x276012 x3) 0 100000).bind fun t283 => (if t283 = true then (spec_WorldOk.l0 k (wrap64 (x3 + 1)) x276000 x276001 x276002 x276003 x276004 x276005 x276006 x276007 x276008 x276009 x276010 x276011 x276012 x276013 x276014 x276015) else (some false))) else (none)) else (some true)
end
def spec_WorldOk.f (k : Nat) (a0_0 : Int) (a0_1 : Int) (a0_2 : Int) (l0_3 : List (S82)) (l0_4 : List (S102)) (a0_5 : Int) (a0_6 : Int) (l0_7 : List (S102)) (a0_8 : Int) (a0_9 : Int) (a0_10 : Int) (a0_11 : Int) (l0_12 : List Int) (a0_13 : Int) (a0_14 : Int) (a0_15 : Int) : Option (Bool) := (spec_SetupOk.f k a0_0 a0_1 a0_2 l0_3 l0_4 a0_5 a0_6 l0_7 a0_8 a0_9 a0_10 a0_11).bind fun t276 => (if t276 = true then (if (l0_3.length : Int) = 1 then (if 0 < (l0_3.length : Int) then (if ((rd_T82 l0_3 0).f0).toList = ([99, 112, 117] : List UInt8) then ((spec_l01In.f (l0_12.length : Int) 1 20).bind fun t278 => (if t278 = true then ((spec_l01In.f a0_13 0 50).bind fun t279 => (if t279 = true then ((spec_l01In.f a0_14 1 50).bind fun t280 => (if t280 = true then ((spec_l01In.f a0_15 1 12).bind fun t281 => (spec_WorldOk.j0 k (!t281) a0_0 a0_1 a0_2 l0_3 l0_4 a0_5 a0_6 l0_7 a0_8 a0_9 a0_10 a0_11 l0_12 a0_13 a0_14 a0_15)) else (spec_WorldOk.j0 k true a0_0 a0_1 a0_2 l0_3 l0_4 a0_5 a0_6 l0_7 a0_8 a0_9 a0_10 a0_11 l0_12 a0_13 a0_14 a0_15))) else (spec_WorldOk.j0 k true a0_0 a0_1 a0_2 l0_3 l0_4 a0_5 a0_6 l0_7 a0_8 a0_9 a0_10 a0_11 l0_12 a0_13 a0_14 a0_15))) else (spec_WorldOk.j0 k true a0_0 a0_1 a0_2 l0_3 l0_4 a0_5 a0_6 l0_7 a0_8 a0_9 a0_10 a0_11 l0_12 a0_13 a0_14 a0_15))) else (spec_WorldOk.j0 k true a0_0 a0_1 a0_2 l0_3 l0_4 a0_5 a0_6 l0_7 a0_8 a0_9 a0_10 a0_11 l0_12 a0_13 a0_14 a0_15)) else (none)) else (spec_WorldOk.j0 k true a0_0 a0_1 a0_2 l0_3 l0_4 a0_5 a0_6 l0_7 a0_8 a0_9 a0_10 a0_11 l0_12 a0_13 a0_14 a0_15)) else (spec_WorldOk.j0 k true a0_0 a0_1 a0_2 l0_3 l0_4 a0_5 a0_6 l0_7 a0_8 a0_9 a0_10 a0_11 l0_12 a0_13 a0_14 a0_15))
theorem spec_WorldOk.mono_l : ∀ k, (∀ y0 y1 y2 y3 y4 y5 y6 y7 y8 y9 y10 y11 y12 y13 y14 y15 y16, LeO (spec_WorldOk.j0 k y0 y1 y2 y3 y4 y5 y6 y7 y8 y9 y10 y11 y12 y13 y14 y15 y16) (spec_WorldOk.j0 (k + 1) y0 y1 y2 y3 y4 y5 y6 y7 y8 y9 y10 y11 y12 y13 y14 y15 y16)) ∧ (∀ y0 y1 y2 y3 y4 y5 y6 y7 y8 y9 y10 y11 y12 y13 y14 y15 y16, LeO (spec_WorldOk.l0 k y0 y1 y2 y3 y4 y5 y6 y7 y8 y9 y10 y11 y12 y13 y14 y15 y16) (spec_WorldOk.l0 (k + 1) y0 y1 y2 y3 y4 y5 y6 y7 y8 y9 y10 y11 y12 y13 y14 y15 y16))
 | 0 => ⟨fun _ _ _ _ _ _ _ _ _ _ _ _ _ _ _ _ _ r h => by simp [spec_WorldOk.j0] at h, fun _ _ _ _ _ _ _ _ _ _ _ _ _ _ _ _ _ r h => by simp [spec_WorldOk.l0] at h⟩
 | k + 1 => by
  obtain ⟨ih0, ih1⟩ := spec_WorldOk.mono_l k
  refine ⟨?_, ?_⟩
  ·intro y0 y1 y2 y3 y4 y5 y6 y7 y8 y9 y10 y11 y12 y13 y14 y15 y16
   unfold spec_WorldOk.j0
   have m0 := @spec_SetupOk.mono
   exact Pst.mo
  intro y0 y1 y2 y3 y4 y5 y6 y7 y8 y9 y10 y11 y12 y13 y14 y15 y16
  unfold spec_WorldOk.l0
  have m0 := @spec_SetupOk.mono
  exact Pst.mo
theorem spec_WorldOk.mono : ∀ a0 a1 a2 a3 a4 a5 a6 a7 a8 a9 a10 a11 a12 a13 a14 a15 k, LeO (spec_WorldOk.f k a0 a1 a2 a3 a4 a5 a6 a7 a8 a9 a10 a11 a12 a13 a14 a15) (spec_WorldOk.f (k + 1) a0 a1 a2 a3 a4 a5 a6 a7 a8 a9 a10 a11 a12 a13 a14 a15) := by
 intro a0 a1 a2 a3 a4 a5 a6 a7 a8 a9 a10 a11 a12 a13 a14 a15 k
 obtain ⟨ih0, ih1⟩ := spec_WorldOk.mono_l k
 unfold spec_WorldOk.f
 have m0 := @spec_SetupOk.mono
 exact Pst.mo
theorem spec_WorldOk.calls (k : Nat) (a0_0 : Int) (a0_1 : Int) (a0_2 : Int) (A0_3 : Option Addr) (c0_3 : Nat) (l0_3 : List (S82)) (A0_4 : Option Addr) (c0_4 : Nat) (l0_4 : List (S102)) (a0_5 : Int) (a0_6 : Int) (A0_7 : Option Addr) (c0_7 : Nat) (l0_7 : List (S102)) (a0_8 : Int) (a0_9 : Int) (a0_10 : Int) (a0_11 : Int) (A0_12 : Option Addr) (c0_12 : Nat) (l0_12 : List Int) (a0_13 : Int) (a0_14 : Int) (a0_15 : Int) (r : Bool) (w : World) (hr0_3 : Kd.C k82 w A0_3 l0_3.length l0_3) (hc0_3 : l0_3.length ≤ c0_3) (hr0_4 : Kd.C k102 w A0_4 l0_4.length l0_4) (hc0_4 : l0_4.length ≤ c0_4) (hr0_7 : Kd.C k102 w A0_7 l0_7.length l0_7) (hc0_7 : l0_7.length ≤ c0_7) (hr0_12 : Kd.C (Kd.int .i64) w A0_12 l0_12.length l0_12) (hc0_12 : l0_12.length ≤ c0_12) (h : spec_WorldOk.f k a0_0 a0_1 a0_2 l0_3 l0_4 a0_5 a0_6 l0_7 a0_8 a0_9 a0_10 a0_11 l0_12 a0_13 a0_14 a0_15 = some r) :
 Calls Tryz.prog 19 #[.agg #[.int .i64 a0_0, .int .i64 a0_1, .int .i64 a0_2, .slice A0_3 l0_3.length c0_3, .slice A0_4 l0_4.length c0_4, .int .i64 a0_5, .int .i64 a0_6, .slice A0_7 l0_7.length c0_7, .int .i64 a0_8, .int .i64 a0_9, .int .i64 a0_10, .int .i64 a0_11, .slice A0_12 l0_12.length c0_12, .int .i64 a0_13, .int .i64 a0_14, .int .i64 a0_15]] w fun e w' => e = .returned (.bool r) ∧ Below w.heap.size w w' := by
 have hu44 := Tryz.underlying44
 have hu41 := Tryz.underlying41
 have HR0_3 := Pst.A hr0_3
 have HC0_3 := Pst.A hc0_3
 clear hr0_3 hc0_3
 have HR0_4 := Pst.A hr0_4
 have HC0_4 := Pst.A hc0_4
 clear hr0_4 hc0_4
 have HR0_7 := Pst.A hr0_7
 have HC0_7 := Pst.A hc0_7
 clear hr0_7 hc0_7
 have HR0_12 := Pst.A hr0_12
 have HC0_12 := Pst.A hc0_12
 clear hr0_12 hc0_12
 have HB := Pst.A (Below.refl w.heap.size w)
 have H : ((spec_SetupOk.f k a0_0 a0_1 a0_2 l0_3 l0_4 a0_5 a0_6 l0_7 a0_8 a0_9 a0_10 a0_11).bind fun t276 => (if t276 = true then (if (l0_3.length : Int) = 1 then (if 0 < (l0_3.length : Int) then (if ((rd_T82 l0_3 0).f0).toList = ([99, 112, 117] : List UInt8) then ((spec_l01In.f (l0_12.length : Int) 1 20).bind fun t278 => (if t278 = true then ((spec_l01In.f a0_13 0 50).bind fun t279 => (if t279 = true then ((spec_l01In.f a0_14 1 50).bind fun t280 => (if t280 = true then ((spec_l01In.f a0_15 1 12).bind fun t281 => (spec_WorldOk.j0 k (!t281) a0_0 a0_1 a0_2 l0_3 l0_4 a0_5 a0_6 l0_7 a0_8 a0_9 a0_10 a0_11 l0_12 a0_13 a0_14 a0_15)) else (spec_WorldOk.j0 k true a0_0 a0_1 a0_2 l0_3 l0_4 a0_5 a0_6 l0_7 a0_8 a0_9 a0_10 a0_11 l0_12 a0_13 a0_14 a0_15))) else (spec_WorldOk.j0 k true a0_0 a0_1 a0_2 l0_3 l0_4 a0_5 a0_6 l0_7 a0_8 a0_9 a0_10 a0_11 l0_12 a0_13 a0_14 a0_15))) else (spec_WorldOk.j0 k true a0_0 a0_1 a0_2 l0_3 l0_4 a0_5 a0_6 l0_7 a0_8 a0_9 a0_10 a0_11 l0_12 a0_13 a0_14 a0_15))) else (spec_WorldOk.j0 k true a0_0 a0_1 a0_2 l0_3 l0_4 a0_5 a0_6 l0_7 a0_8 a0_9 a0_10 a0_11 l0_12 a0_13 a0_14 a0_15)) else (none)) else (spec_WorldOk.j0 k true a0_0 a0_1 a0_2 l0_3 l0_4 a0_5 a0_6 l0_7 a0_8 a0_9 a0_10 a0_11 l0_12 a0_13 a0_14 a0_15)) else (spec_WorldOk.j0 k true a0_0 a0_1 a0_2 l0_3 l0_4 a0_5 a0_6 l0_7 a0_8 a0_9 a0_10 a0_11 l0_12 a0_13 a0_14 a0_15))) = some r := h
 clear h
 have HC2 := Pst.A H
 clear H
 go_enter Tryz.func19, Tryz.ntmps19
 go_upto_region 1 with (first | ((with_reducible refine gate_dst (N := 1) rfl ?_); (try (refine gate_guard (by rfl) ?_; dsimp only)); refine Pst.bx 1 #[.int .i64 a0_0, .int .i64 a0_1, .int .i64 a0_2, .slice A0_3 l0_3.length c0_3, .slice A0_4 l0_4.length c0_4, .int .i64 a0_5, .int .i64 a0_6, .slice A0_7 l0_7.length c0_7, .int .i64 a0_8, .int .i64 a0_9, .int .i64 a0_10, .int .i64 a0_11, .slice A0_12 l0_12.length c0_12, .int .i64 a0_13, .int .i64 a0_14, .int .i64 a0_15] 44 ?_; intro gb275 hg w3 hbox hb; have BK275 := Pst.A hbox; have GW275 := Pst.A (Pst.gs hg : w.heap.size ≤ gb275); have GE275 := Pst.A (Pst.gs hg : w.heap.size ≤ gb275); replace HB := Pst.A (below_step Pst.bel hb); clear hb hbox hg))
 (try simp only [Act.put, List.setIfInBounds_toArray, List.set_cons_zero, List.set_cons_succ])
 go_cut [48] (fun v48 wc => ∃ (kq : Nat) (x48_1 : Bool), v48 = .bool x48_1 ∧ Aside0 (spec_WorldOk.j0 kq x48_1 a0_0 a0_1 a0_2 l0_3 l0_4 a0_5 a0_6 l0_7 a0_8 a0_9 a0_10 a0_11 l0_12 a0_13 a0_14 a0_15 = some r) ∧ Aside0 (kq ≤ k) ∧ Aside0 (wc.heap[gb275]? = some (.cells #[.int .i64 a0_0, .int .i64 a0_1, .int .i64 a0_2, (.slice A0_3 l0_3.length c0_3), (.slice A0_4 l0_4.length c0_4), .int .i64 a0_5, .int .i64 a0_6, (.slice A0_7 l0_7.length c0_7), .int .i64 a0_8, .int .i64 a0_9, .int .i64 a0_10, .int .i64 a0_11, (.slice A0_12 l0_12.length c0_12), .int .i64 a0_13, .int .i64 a0_14, .int .i64 a0_15] 44 (0, 0))) ∧ Aside0 (Below w.heap.size w wc))
 case first =>
  have H := HC2.out
  clear HC2
  obtain ⟨t276, A40, H⟩ := Pst.bd H
  have A4 := Pst.A A40
  clear A40
  by_cases c5 : t276 = true
  ·subst c5
   rw [if_pos rfl] at H
   by_cases c6 : (l0_3.length : Int) = 1
   ·rw [if_pos c6] at H
    have c6b0 : ((l0_3.length : Int) == 1) = true := beq_iff_eq.mpr c6
    have c6b1 : ((l0_3.length : Int) != 1) = false := bne_eq_false_iff_eq.mpr c6
    clear c6
    (first | rw [c6b0] | (simp only [i64_w, i32_w]; rw [c6b0]) | skip)
    by_cases c7 : 0 < (l0_3.length : Int)
    ·rw [if_pos c7] at H
     have c7b0 : decide (0 < (l0_3.length : Int)) = true := decide_eq_true c7
     have c7b1 : decide (0 < l0_3.length) = true := decide_eq_true (by omega)
     clear c7
     by_cases c8 : ((rd_T82 l0_3 0).f0).toList = ([99, 112, 117] : List UInt8)
     ·rw [if_pos c8] at H
      have c8b0 : (((rd_T82 l0_3 0).f0).toList == ([99, 112, 117] : List UInt8)) = true := beq_iff_eq.mpr c8
      have c8b1 : (((rd_T82 l0_3 0).f0).toList != ([99, 112, 117] : List UInt8)) = false := bne_eq_false_iff_eq.mpr c8
      clear c8
      obtain ⟨t278, A90, H⟩ := Pst.bd H
      have A9 := Pst.A A90
      clear A90
      by_cases c10 : t278 = true
      ·subst c10
       rw [if_pos rfl] at H
       obtain ⟨t279, A110, H⟩ := Pst.bd H
       have A11 := Pst.A A110
       clear A110
       by_cases c12 : t279 = true
       ·subst c12
        rw [if_pos rfl] at H
        obtain ⟨t280, A130, H⟩ := Pst.bd H
        have A13 := Pst.A A130
        clear A130
        by_cases c14 : t280 = true
        ·subst c14
         rw [if_pos rfl] at H
         obtain ⟨t281, A150, H⟩ := Pst.bd H
         have A15 := Pst.A A150
         clear A150
         have H' := Pst.A H
         clear H
         obtain ⟨hcz16_0, hcz16_1, hcz16_2, hcz16_3, hcz16_4, hcz16_5, hcz16_6, hcz16_7, hcz16_8, hcz16_9, hcz16_10, hcz16_11, hcz16_12, hcz16_13, hcz16_14, hcz16_15⟩ := Pst.c16 BK275.out
         obtain ⟨hfz16_0, hfz16_1, hfz16_2, hfz16_3, hfz16_4, hfz16_5, hfz16_6, hfz16_7, hfz16_8, hfz16_9, hfz16_10, hfz16_11, hfz16_12, hfz16_13, hfz16_14, hfz16_15⟩ := Pst.f16 BK275.out
         go_wp2_with (first | ((with_reducible refine gate_callee (f := 46) rfl ?_); refine goesL_ (some 6) rfl rfl Tryz.func46 (by kernel_rfl) rfl #[.agg #[.int .i64 a0_0, .int .i64 a0_1, .int .i64 a0_2, .slice A0_3 l0_3.length c0_3, .slice A0_4 l0_4.length c0_4, .int .i64 a0_5, .int .i64 a0_6, .slice A0_7 l0_7.length c0_7, .int .i64 a0_8, .int .i64 a0_9, .int .i64 a0_10, .int .i64 a0_11]] rfl Pst.ga ?_; (with_reducible refine (spec_SetupOk.calls k a0_0 a0_1 a0_2 _ _ l0_3 _ _ l0_4 a0_5 a0_6 _ _ l0_7 a0_8 a0_9 a0_10 a0_11 true _ ?side1 ?side2 ?side3 ?side4 ?side5 ?side6 A4.out).mono ?_); (case side1 => exact Pst.qc (Kd.C_below HR0_3.out HB.out)); (case side2 => exact HC0_3.out); (case side3 => exact Pst.qc (Kd.C_below HR0_4.out HB.out)); (case side4 => exact HC0_4.out); (case side5 => exact Pst.qc (Kd.C_below HR0_7.out HB.out)); (case side6 => exact HC0_7.out); rintro e w17 ⟨rfl, hb⟩; refine ⟨_, rfl, ?_⟩; replace BK275 := Pst.A (Pst.kb BK275.out hb); replace HB := Pst.A (below_step Pst.bes hb); (try clear hb); (try clear hb2); (try clear hk); (try clear hi); obtain ⟨hcz18_0, hcz18_1, hcz18_2, hcz18_3, hcz18_4, hcz18_5, hcz18_6, hcz18_7, hcz18_8, hcz18_9, hcz18_10, hcz18_11, hcz18_12, hcz18_13, hcz18_14, hcz18_15⟩ := Pst.c16 BK275.out; obtain ⟨hfz18_0, hfz18_1, hfz18_2, hfz18_3, hfz18_4, hfz18_5, hfz18_6, hfz18_7, hfz18_8, hfz18_9, hfz18_10, hfz18_11, hfz18_12, hfz18_13, hfz18_14, hfz18_15⟩ := Pst.f16 BK275.out; have p277 : 0 ≤ (0 : Int) := (by omega); have q277 : 0 < (l0_3.length : Int) := Pst.da; obtain ⟨ad277, e277, hx277_0, hx277_1, hx277_2⟩ := at_T82 HR0_3.out 0 p277 q277; cases e277; have qi277 : (0 < l0_3.length) = True := eq_true (by omega); (try rw [show ((0 : Int)).toNat = 0 from rfl] at hx277_0); (try rw [show 0 * 3 = 0 from rfl] at hx277_0); (try rw [Addr.add_zero'] at hx277_0); (try rw [show ((0 : Int)).toNat = 0 from rfl] at hx277_1); (try rw [show 0 * 3 = 0 from rfl] at hx277_1); (try rw [Addr.add_zero'] at hx277_1); (try rw [show ((0 : Int)).toNat = 0 from rfl] at hx277_2); (try rw [show 0 * 3 = 0 from rfl] at hx277_2); (try rw [Addr.add_zero'] at hx277_2); replace hx277_0 := (HB.out.cell (World.block_lt_of_cell? w _ hx277_0)).trans hx277_0; replace hx277_1 := (HB.out.cell (World.block_lt_of_cell? w _ hx277_1)).trans hx277_1; replace hx277_2 := (HB.out.cell (World.block_lt_of_cell? w _ hx277_2)).trans hx277_2; replace p277 := eq_true p277; replace q277 := eq_true q277) | (go_at_call 42; (with_reducible refine (spec_l01In.calls (l0_12.length : Int) 1 20 true _ A9.out).mono ?_); rintro e w' ⟨rfl, ⟨nd, rfl⟩⟩) | (go_at_call 42; (with_reducible refine (spec_l01In.calls a0_13 0 50 true _ A11.out).mono ?_); rintro e w' ⟨rfl, ⟨nd, rfl⟩⟩) | (go_at_call 42; (with_reducible refine (spec_l01In.calls a0_14 1 50 true _ A13.out).mono ?_); rintro e w' ⟨rfl, ⟨nd, rfl⟩⟩) | (go_at_call 42; (with_reducible refine (spec_l01In.calls a0_15 1 12 t281 _ A15.out).mono ?_); rintro e w' ⟨rfl, ⟨nd, rfl⟩⟩))
         go_meet
         case rel => exact ⟨_, (!t281), Pst.e2, H', ⟨by first | omega | exact Nat.le_refl _⟩, ⟨by exact Pst.qb BK275.out⟩, ⟨Pst.bes⟩⟩
        replace c14 := Bool.eq_false_iff.mpr c14
        subst c14
        rw [if_neg Pst.ft] at H
        have H' := Pst.A H
        clear H
        obtain ⟨hcz19_0, hcz19_1, hcz19_2, hcz19_3, hcz19_4, hcz19_5, hcz19_6, hcz19_7, hcz19_8, hcz19_9, hcz19_10, hcz19_11, hcz19_12, hcz19_13, hcz19_14, hcz19_15⟩ := Pst.c16 BK275.out
        obtain ⟨hfz19_0, hfz19_1, hfz19_2, hfz19_3, hfz19_4, hfz19_5, hfz19_6, hfz19_7, hfz19_8, hfz19_9, hfz19_10, hfz19_11, hfz19_12, hfz19_13, hfz19_14, hfz19_15⟩ := Pst.f16 BK275.out
        go_wp2_with (first | ((with_reducible refine gate_callee (f := 46) rfl ?_); refine goesL_ (some 6) rfl rfl Tryz.func46 (by kernel_rfl) rfl #[.agg #[.int .i64 a0_0, .int .i64 a0_1, .int .i64 a0_2, .slice A0_3 l0_3.length c0_3, .slice A0_4 l0_4.length c0_4, .int .i64 a0_5, .int .i64 a0_6, .slice A0_7 l0_7.length c0_7, .int .i64 a0_8, .int .i64 a0_9, .int .i64 a0_10, .int .i64 a0_11]] rfl Pst.ga ?_; (with_reducible refine (spec_SetupOk.calls k a0_0 a0_1 a0_2 _ _ l0_3 _ _ l0_4 a0_5 a0_6 _ _ l0_7 a0_8 a0_9 a0_10 a0_11 true _ ?side1 ?side2 ?side3 ?side4 ?side5 ?side6 A4.out).mono ?_); (case side1 => exact Pst.qc (Kd.C_below HR0_3.out HB.out)); (case side2 => exact HC0_3.out); (case side3 => exact Pst.qc (Kd.C_below HR0_4.out HB.out)); (case side4 => exact HC0_4.out); (case side5 => exact Pst.qc (Kd.C_below HR0_7.out HB.out)); (case side6 => exact HC0_7.out); rintro e w20 ⟨rfl, hb⟩; refine ⟨_, rfl, ?_⟩; replace BK275 := Pst.A (Pst.kb BK275.out hb); replace HB := Pst.A (below_step Pst.bes hb); (try clear hb); (try clear hb2); (try clear hk); (try clear hi); obtain ⟨hcz21_0, hcz21_1, hcz21_2, hcz21_3, hcz21_4, hcz21_5, hcz21_6, hcz21_7, hcz21_8, hcz21_9, hcz21_10, hcz21_11, hcz21_12, hcz21_13, hcz21_14, hcz21_15⟩ := Pst.c16 BK275.out; obtain ⟨hfz21_0, hfz21_1, hfz21_2, hfz21_3, hfz21_4, hfz21_5, hfz21_6, hfz21_7, hfz21_8, hfz21_9, hfz21_10, hfz21_11, hfz21_12, hfz21_13, hfz21_14, hfz21_15⟩ := Pst.f16 BK275.out; have p277 : 0 ≤ (0 : Int) := (by omega); have q277 : 0 < (l0_3.length : Int) := Pst.da; obtain ⟨ad277, e277, hx277_0, hx277_1, hx277_2⟩ := at_T82 HR0_3.out 0 p277 q277; cases e277; have qi277 : (0 < l0_3.length) = True := eq_true (by omega); (try rw [show ((0 : Int)).toNat = 0 from rfl] at hx277_0); (try rw [show 0 * 3 = 0 from rfl] at hx277_0); (try rw [Addr.add_zero'] at hx277_0); (try rw [show ((0 : Int)).toNat = 0 from rfl] at hx277_1); (try rw [show 0 * 3 = 0 from rfl] at hx277_1); (try rw [Addr.add_zero'] at hx277_1); (try rw [show ((0 : Int)).toNat = 0 from rfl] at hx277_2); (try rw [show 0 * 3 = 0 from rfl] at hx277_2); (try rw [Addr.add_zero'] at hx277_2); replace hx277_0 := (HB.out.cell (World.block_lt_of_cell? w _ hx277_0)).trans hx277_0; replace hx277_1 := (HB.out.cell (World.block_lt_of_cell? w _ hx277_1)).trans hx277_1; replace hx277_2 := (HB.out.cell (World.block_lt_of_cell? w _ hx277_2)).trans hx277_2; replace p277 := eq_true p277; replace q277 := eq_true q277) | (go_at_call 42; (with_reducible refine (spec_l01In.calls (l0_12.length : Int) 1 20 true _ A9.out).mono ?_); rintro e w' ⟨rfl, ⟨nd, rfl⟩⟩) | (go_at_call 42; (with_reducible refine (spec_l01In.calls a0_13 0 50 true _ A11.out).mono ?_); rintro e w' ⟨rfl, ⟨nd, rfl⟩⟩) | (go_at_call 42; (with_reducible refine (spec_l01In.calls a0_14 1 50 false _ A13.out).mono ?_); rintro e w' ⟨rfl, ⟨nd, rfl⟩⟩))
        go_meet
        case rel => exact ⟨_, (true), Pst.e2, H', ⟨by first | omega | exact Nat.le_refl _⟩, ⟨by exact Pst.qb BK275.out⟩, ⟨Pst.bes⟩⟩
       replace c12 := Bool.eq_false_iff.mpr c12
       subst c12
       rw [if_neg Pst.ft] at H
       have H' := Pst.A H
       clear H
       obtain ⟨hcz22_0, hcz22_1, hcz22_2, hcz22_3, hcz22_4, hcz22_5, hcz22_6, hcz22_7, hcz22_8, hcz22_9, hcz22_10, hcz22_11, hcz22_12, hcz22_13, hcz22_14, hcz22_15⟩ := Pst.c16 BK275.out
       obtain ⟨hfz22_0, hfz22_1, hfz22_2, hfz22_3, hfz22_4, hfz22_5, hfz22_6, hfz22_7, hfz22_8, hfz22_9, hfz22_10, hfz22_11, hfz22_12, hfz22_13, hfz22_14, hfz22_15⟩ := Pst.f16 BK275.out
       go_wp2_with (first | ((with_reducible refine gate_callee (f := 46) rfl ?_); refine goesL_ (some 6) rfl rfl Tryz.func46 (by kernel_rfl) rfl #[.agg #[.int .i64 a0_0, .int .i64 a0_1, .int .i64 a0_2, .slice A0_3 l0_3.length c0_3, .slice A0_4 l0_4.length c0_4, .int .i64 a0_5, .int .i64 a0_6, .slice A0_7 l0_7.length c0_7, .int .i64 a0_8, .int .i64 a0_9, .int .i64 a0_10, .int .i64 a0_11]] rfl Pst.ga ?_; (with_reducible refine (spec_SetupOk.calls k a0_0 a0_1 a0_2 _ _ l0_3 _ _ l0_4 a0_5 a0_6 _ _ l0_7 a0_8 a0_9 a0_10 a0_11 true _ ?side1 ?side2 ?side3 ?side4 ?side5 ?side6 A4.out).mono ?_); (case side1 => exact Pst.qc (Kd.C_below HR0_3.out HB.out)); (case side2 => exact HC0_3.out); (case side3 => exact Pst.qc (Kd.C_below HR0_4.out HB.out)); (case side4 => exact HC0_4.out); (case side5 => exact Pst.qc (Kd.C_below HR0_7.out HB.out)); (case side6 => exact HC0_7.out); rintro e w23 ⟨rfl, hb⟩; refine ⟨_, rfl, ?_⟩; replace BK275 := Pst.A (Pst.kb BK275.out hb); replace HB := Pst.A (below_step Pst.bes hb); (try clear hb); (try clear hb2); (try clear hk); (try clear hi); obtain ⟨hcz24_0, hcz24_1, hcz24_2, hcz24_3, hcz24_4, hcz24_5, hcz24_6, hcz24_7, hcz24_8, hcz24_9, hcz24_10, hcz24_11, hcz24_12, hcz24_13, hcz24_14, hcz24_15⟩ := Pst.c16 BK275.out; obtain ⟨hfz24_0, hfz24_1, hfz24_2, hfz24_3, hfz24_4, hfz24_5, hfz24_6, hfz24_7, hfz24_8, hfz24_9, hfz24_10, hfz24_11, hfz24_12, hfz24_13, hfz24_14, hfz24_15⟩ := Pst.f16 BK275.out; have p277 : 0 ≤ (0 : Int) := (by omega); have q277 : 0 < (l0_3.length : Int) := Pst.da; obtain ⟨ad277, e277, hx277_0, hx277_1, hx277_2⟩ := at_T82 HR0_3.out 0 p277 q277; cases e277; have qi277 : (0 < l0_3.length) = True := eq_true (by omega); (try rw [show ((0 : Int)).toNat = 0 from rfl] at hx277_0); (try rw [show 0 * 3 = 0 from rfl] at hx277_0); (try rw [Addr.add_zero'] at hx277_0); (try rw [show ((0 : Int)).toNat = 0 from rfl] at hx277_1); (try rw [show 0 * 3 = 0 from rfl] at hx277_1); (try rw [Addr.add_zero'] at hx277_1); (try rw [show ((0 : Int)).toNat = 0 from rfl] at hx277_2); (try rw [show 0 * 3 = 0 from rfl] at hx277_2); (try rw [Addr.add_zero'] at hx277_2); replace hx277_0 := (HB.out.cell (World.block_lt_of_cell? w _ hx277_0)).trans hx277_0; replace hx277_1 := (HB.out.cell (World.block_lt_of_cell? w _ hx277_1)).trans hx277_1; replace hx277_2 := (HB.out.cell (World.block_lt_of_cell? w _ hx277_2)).trans hx277_2; replace p277 := eq_true p277; replace q277 := eq_true q277) | (go_at_call 42; (with_reducible refine (spec_l01In.calls (l0_12.length : Int) 1 20 true _ A9.out).mono ?_); rintro e w' ⟨rfl, ⟨nd, rfl⟩⟩) | (go_at_call 42; (with_reducible refine (spec_l01In.calls a0_13 0 50 false _ A11.out).mono ?_); rintro e w' ⟨rfl, ⟨nd, rfl⟩⟩))
       go_meet
       case rel => exact ⟨_, (true), Pst.e2, H', ⟨by first | omega | exact Nat.le_refl _⟩, ⟨by exact Pst.qb BK275.out⟩, ⟨Pst.bes⟩⟩
      replace c10 := Bool.eq_false_iff.mpr c10
      subst c10
      rw [if_neg Pst.ft] at H
      have H' := Pst.A H
      clear H
      obtain ⟨hcz25_0, hcz25_1, hcz25_2, hcz25_3, hcz25_4, hcz25_5, hcz25_6, hcz25_7, hcz25_8, hcz25_9, hcz25_10, hcz25_11, hcz25_12, hcz25_13, hcz25_14, hcz25_15⟩ := Pst.c16 BK275.out
      obtain ⟨hfz25_0, hfz25_1, hfz25_2, hfz25_3, hfz25_4, hfz25_5, hfz25_6, hfz25_7, hfz25_8, hfz25_9, hfz25_10, hfz25_11, hfz25_12, hfz25_13, hfz25_14, hfz25_15⟩ := Pst.f16 BK275.out
      go_wp2_with (first | ((with_reducible refine gate_callee (f := 46) rfl ?_); refine goesL_ (some 6) rfl rfl Tryz.func46 (by kernel_rfl) rfl #[.agg #[.int .i64 a0_0, .int .i64 a0_1, .int .i64 a0_2, .slice A0_3 l0_3.length c0_3, .slice A0_4 l0_4.length c0_4, .int .i64 a0_5, .int .i64 a0_6, .slice A0_7 l0_7.length c0_7, .int .i64 a0_8, .int .i64 a0_9, .int .i64 a0_10, .int .i64 a0_11]] rfl Pst.ga ?_; (with_reducible refine (spec_SetupOk.calls k a0_0 a0_1 a0_2 _ _ l0_3 _ _ l0_4 a0_5 a0_6 _ _ l0_7 a0_8 a0_9 a0_10 a0_11 true _ ?side1 ?side2 ?side3 ?side4 ?side5 ?side6 A4.out).mono ?_); (case side1 => exact Pst.qc (Kd.C_below HR0_3.out HB.out)); (case side2 => exact HC0_3.out); (case side3 => exact Pst.qc (Kd.C_below HR0_4.out HB.out)); (case side4 => exact HC0_4.out); (case side5 => exact Pst.qc (Kd.C_below HR0_7.out HB.out)); (case side6 => exact HC0_7.out); rintro e w26 ⟨rfl, hb⟩; refine ⟨_, rfl, ?_⟩; replace BK275 := Pst.A (Pst.kb BK275.out hb); replace HB := Pst.A (below_step Pst.bes hb); (try clear hb); (try clear hb2); (try clear hk); (try clear hi); obtain ⟨hcz27_0, hcz27_1, hcz27_2, hcz27_3, hcz27_4, hcz27_5, hcz27_6, hcz27_7, hcz27_8, hcz27_9, hcz27_10, hcz27_11, hcz27_12, hcz27_13, hcz27_14, hcz27_15⟩ := Pst.c16 BK275.out; obtain ⟨hfz27_0, hfz27_1, hfz27_2, hfz27_3, hfz27_4, hfz27_5, hfz27_6, hfz27_7, hfz27_8, hfz27_9, hfz27_10, hfz27_11, hfz27_12, hfz27_13, hfz27_14, hfz27_15⟩ := Pst.f16 BK275.out; have p277 : 0 ≤ (0 : Int) := (by omega); have q277 : 0 < (l0_3.length : Int) := Pst.da; obtain ⟨ad277, e277, hx277_0, hx277_1, hx277_2⟩ := at_T82 HR0_3.out 0 p277 q277; cases e277; have qi277 : (0 < l0_3.length) = True := eq_true (by omega); (try rw [show ((0 : Int)).toNat = 0 from rfl] at hx277_0); (try rw [show 0 * 3 = 0 from rfl] at hx277_0); (try rw [Addr.add_zero'] at hx277_0); (try rw [show ((0 : Int)).toNat = 0 from rfl] at hx277_1); (try rw [show 0 * 3 = 0 from rfl] at hx277_1); (try rw [Addr.add_zero'] at hx277_1); (try rw [show ((0 : Int)).toNat = 0 from rfl] at hx277_2); (try rw [show 0 * 3 = 0 from rfl] at hx277_2); (try rw [Addr.add_zero'] at hx277_2); replace hx277_0 := (HB.out.cell (World.block_lt_of_cell? w _ hx277_0)).trans hx277_0; replace hx277_1 := (HB.out.cell (World.block_lt_of_cell? w _ hx277_1)).trans hx277_1; replace hx277_2 := (HB.out.cell (World.block_lt_of_cell? w _ hx277_2)).trans hx277_2; replace p277 := eq_true p277; replace q277 := eq_true q277) | (go_at_call 42; (with_reducible refine (spec_l01In.calls (l0_12.length : Int) 1 20 false _ A9.out).mono ?_); rintro e w' ⟨rfl, ⟨nd, rfl⟩⟩))
      go_meet
      case rel => exact ⟨_, (true), Pst.e2, H', ⟨by first | omega | exact Nat.le_refl _⟩, ⟨by exact Pst.qb BK275.out⟩, ⟨Pst.bes⟩⟩
     rw [if_neg c8] at H
     have c8b0 : (((rd_T82 l0_3 0).f0).toList == ([99, 112, 117] : List UInt8)) = false := beq_eq_false_iff_ne.mpr c8
     have c8b1 : (((rd_T82 l0_3 0).f0).toList != ([99, 112, 117] : List UInt8)) = true := bne_iff_ne.mpr c8
     have H' := Pst.A H
     clear H
     obtain ⟨hcz28_0, hcz28_1, hcz28_2, hcz28_3, hcz28_4, hcz28_5, hcz28_6, hcz28_7, hcz28_8, hcz28_9, hcz28_10, hcz28_11, hcz28_12, hcz28_13, hcz28_14, hcz28_15⟩ := Pst.c16 BK275.out
     obtain ⟨hfz28_0, hfz28_1, hfz28_2, hfz28_3, hfz28_4, hfz28_5, hfz28_6, hfz28_7, hfz28_8, hfz28_9, hfz28_10, hfz28_11, hfz28_12, hfz28_13, hfz28_14, hfz28_15⟩ := Pst.f16 BK275.out
     go_wp2_with (first | ((with_reducible refine gate_callee (f := 46) rfl ?_); refine goesL_ (some 6) rfl rfl Tryz.func46 (by kernel_rfl) rfl #[.agg #[.int .i64 a0_0, .int .i64 a0_1, .int .i64 a0_2, .slice A0_3 l0_3.length c0_3, .slice A0_4 l0_4.length c0_4, .int .i64 a0_5, .int .i64 a0_6, .slice A0_7 l0_7.length c0_7, .int .i64 a0_8, .int .i64 a0_9, .int .i64 a0_10, .int .i64 a0_11]] rfl Pst.ga ?_; (with_reducible refine (spec_SetupOk.calls k a0_0 a0_1 a0_2 _ _ l0_3 _ _ l0_4 a0_5 a0_6 _ _ l0_7 a0_8 a0_9 a0_10 a0_11 true _ ?side1 ?side2 ?side3 ?side4 ?side5 ?side6 A4.out).mono ?_); (case side1 => exact Pst.qc (Kd.C_below HR0_3.out HB.out)); (case side2 => exact HC0_3.out); (case side3 => exact Pst.qc (Kd.C_below HR0_4.out HB.out)); (case side4 => exact HC0_4.out); (case side5 => exact Pst.qc (Kd.C_below HR0_7.out HB.out)); (case side6 => exact HC0_7.out); rintro e w29 ⟨rfl, hb⟩; refine ⟨_, rfl, ?_⟩; replace BK275 := Pst.A (Pst.kb BK275.out hb); replace HB := Pst.A (below_step Pst.bes hb); (try clear hb); (try clear hb2); (try clear hk); (try clear hi); obtain ⟨hcz30_0, hcz30_1, hcz30_2, hcz30_3, hcz30_4, hcz30_5, hcz30_6, hcz30_7, hcz30_8, hcz30_9, hcz30_10, hcz30_11, hcz30_12, hcz30_13, hcz30_14, hcz30_15⟩ := Pst.c16 BK275.out; obtain ⟨hfz30_0, hfz30_1, hfz30_2, hfz30_3, hfz30_4, hfz30_5, hfz30_6, hfz30_7, hfz30_8, hfz30_9, hfz30_10, hfz30_11, hfz30_12, hfz30_13, hfz30_14, hfz30_15⟩ := Pst.f16 BK275.out; have p277 : 0 ≤ (0 : Int) := (by omega); have q277 : 0 < (l0_3.length : Int) := Pst.da; obtain ⟨ad277, e277, hx277_0, hx277_1, hx277_2⟩ := at_T82 HR0_3.out 0 p277 q277; cases e277; have qi277 : (0 < l0_3.length) = True := eq_true (by omega); (try rw [show ((0 : Int)).toNat = 0 from rfl] at hx277_0); (try rw [show 0 * 3 = 0 from rfl] at hx277_0); (try rw [Addr.add_zero'] at hx277_0); (try rw [show ((0 : Int)).toNat = 0 from rfl] at hx277_1); (try rw [show 0 * 3 = 0 from rfl] at hx277_1); (try rw [Addr.add_zero'] at hx277_1); (try rw [show ((0 : Int)).toNat = 0 from rfl] at hx277_2); (try rw [show 0 * 3 = 0 from rfl] at hx277_2); (try rw [Addr.add_zero'] at hx277_2); replace hx277_0 := (HB.out.cell (World.block_lt_of_cell? w _ hx277_0)).trans hx277_0; replace hx277_1 := (HB.out.cell (World.block_lt_of_cell? w _ hx277_1)).trans hx277_1; replace hx277_2 := (HB.out.cell (World.block_lt_of_cell? w _ hx277_2)).trans hx277_2; replace p277 := eq_true p277; replace q277 := eq_true q277))
     go_meet
     case rel => exact ⟨_, (true), Pst.e2, H', ⟨by first | omega | exact Nat.le_refl _⟩, ⟨by exact Pst.qb BK275.out⟩, ⟨Pst.bes⟩⟩
    rw [if_neg c7] at H
    exact absurd H (by simp)
   rw [if_neg c6] at H
   have c6b0 : ((l0_3.length : Int) == 1) = false := beq_eq_false_iff_ne.mpr c6
   have c6b1 : ((l0_3.length : Int) != 1) = true := bne_iff_ne.mpr c6
   (first | rw [c6b0] | (simp only [i64_w, i32_w]; rw [c6b0]) | skip)
   have H' := Pst.A H
   clear H
   obtain ⟨hcz31_0, hcz31_1, hcz31_2, hcz31_3, hcz31_4, hcz31_5, hcz31_6, hcz31_7, hcz31_8, hcz31_9, hcz31_10, hcz31_11, hcz31_12, hcz31_13, hcz31_14, hcz31_15⟩ := Pst.c16 BK275.out
   obtain ⟨hfz31_0, hfz31_1, hfz31_2, hfz31_3, hfz31_4, hfz31_5, hfz31_6, hfz31_7, hfz31_8, hfz31_9, hfz31_10, hfz31_11, hfz31_12, hfz31_13, hfz31_14, hfz31_15⟩ := Pst.f16 BK275.out
   go_wp2_with (first | ((with_reducible refine gate_callee (f := 46) rfl ?_); refine goesL_ (some 6) rfl rfl Tryz.func46 (by kernel_rfl) rfl #[.agg #[.int .i64 a0_0, .int .i64 a0_1, .int .i64 a0_2, .slice A0_3 l0_3.length c0_3, .slice A0_4 l0_4.length c0_4, .int .i64 a0_5, .int .i64 a0_6, .slice A0_7 l0_7.length c0_7, .int .i64 a0_8, .int .i64 a0_9, .int .i64 a0_10, .int .i64 a0_11]] rfl Pst.ga ?_; (with_reducible refine (spec_SetupOk.calls k a0_0 a0_1 a0_2 _ _ l0_3 _ _ l0_4 a0_5 a0_6 _ _ l0_7 a0_8 a0_9 a0_10 a0_11 true _ ?side1 ?side2 ?side3 ?side4 ?side5 ?side6 A4.out).mono ?_); (case side1 => exact Pst.qc (Kd.C_below HR0_3.out HB.out)); (case side2 => exact HC0_3.out); (case side3 => exact Pst.qc (Kd.C_below HR0_4.out HB.out)); (case side4 => exact HC0_4.out); (case side5 => exact Pst.qc (Kd.C_below HR0_7.out HB.out)); (case side6 => exact HC0_7.out); rintro e w32 ⟨rfl, hb⟩; refine ⟨_, rfl, ?_⟩; replace BK275 := Pst.A (Pst.kb BK275.out hb); replace HB := Pst.A (below_step Pst.bes hb); (try clear hb); (try clear hb2); (try clear hk); (try clear hi); obtain ⟨hcz33_0, hcz33_1, hcz33_2, hcz33_3, hcz33_4, hcz33_5, hcz33_6, hcz33_7, hcz33_8, hcz33_9, hcz33_10, hcz33_11, hcz33_12, hcz33_13, hcz33_14, hcz33_15⟩ := Pst.c16 BK275.out; obtain ⟨hfz33_0, hfz33_1, hfz33_2, hfz33_3, hfz33_4, hfz33_5, hfz33_6, hfz33_7, hfz33_8, hfz33_9, hfz33_10, hfz33_11, hfz33_12, hfz33_13, hfz33_14, hfz33_15⟩ := Pst.f16 BK275.out))
   go_meet
   case rel => exact ⟨_, (true), Pst.e2, H', ⟨by first | omega | exact Nat.le_refl _⟩, ⟨by exact Pst.qb BK275.out⟩, ⟨Pst.bes⟩⟩
  replace c5 := Bool.eq_false_iff.mpr c5
  subst c5
  rw [if_neg Pst.ft] at H
  have H' := Pst.A H
  clear H
  obtain ⟨hcz34_0, hcz34_1, hcz34_2, hcz34_3, hcz34_4, hcz34_5, hcz34_6, hcz34_7, hcz34_8, hcz34_9, hcz34_10, hcz34_11, hcz34_12, hcz34_13, hcz34_14, hcz34_15⟩ := Pst.c16 BK275.out
  obtain ⟨hfz34_0, hfz34_1, hfz34_2, hfz34_3, hfz34_4, hfz34_5, hfz34_6, hfz34_7, hfz34_8, hfz34_9, hfz34_10, hfz34_11, hfz34_12, hfz34_13, hfz34_14, hfz34_15⟩ := Pst.f16 BK275.out
  go_wp2_with (first | ((with_reducible refine gate_callee (f := 46) rfl ?_); refine goesL_ (some 6) rfl rfl Tryz.func46 (by kernel_rfl) rfl #[.agg #[.int .i64 a0_0, .int .i64 a0_1, .int .i64 a0_2, .slice A0_3 l0_3.length c0_3, .slice A0_4 l0_4.length c0_4, .int .i64 a0_5, .int .i64 a0_6, .slice A0_7 l0_7.length c0_7, .int .i64 a0_8, .int .i64 a0_9, .int .i64 a0_10, .int .i64 a0_11]] rfl Pst.ga ?_; (with_reducible refine (spec_SetupOk.calls k a0_0 a0_1 a0_2 _ _ l0_3 _ _ l0_4 a0_5 a0_6 _ _ l0_7 a0_8 a0_9 a0_10 a0_11 false _ ?side1 ?side2 ?side3 ?side4 ?side5 ?side6 A4.out).mono ?_); (case side1 => exact Pst.qc (Kd.C_below HR0_3.out HB.out)); (case side2 => exact HC0_3.out); (case side3 => exact Pst.qc (Kd.C_below HR0_4.out HB.out)); (case side4 => exact HC0_4.out); (case side5 => exact Pst.qc (Kd.C_below HR0_7.out HB.out)); (case side6 => exact HC0_7.out); rintro e w35 ⟨rfl, hb⟩; refine ⟨_, rfl, ?_⟩; replace BK275 := Pst.A (Pst.kb BK275.out hb); replace HB := Pst.A (below_step Pst.bes hb); (try clear hb); (try clear hb2); (try clear hk); (try clear hi)))
  go_meet
  case rel => exact ⟨_, (true), Pst.e2, H', ⟨by first | omega | exact Nat.le_refl _⟩, ⟨by exact Pst.qb BK275.out⟩, ⟨Pst.bes⟩⟩
 clear HC2
 try clear c1
 try clear p2
 try clear q2
 try clear hx2
 try clear qi2
 try clear c4
 try clear c5
 try clear c6
 try clear c6b0
 try clear c6b1
 try clear c7
 try clear c7b0
 try clear c7b1
 try clear c8
 try clear c8b0
 try clear c8b1
 try clear c10
 try clear c12
 try clear c14
 try clear c19
 try clear p27
 try clear q27
 try clear hx27
 try clear qi27
 try clear hx277_0
 try clear hx277_1
 try clear hx277_2
 try clear p277
 try clear q277
 obtain ⟨kq, x48_1, rfl, HA, HJ1, BK275, HB⟩ := hcut
 cases kq with
 | zero => exact absurd HA.out (by simp [spec_WorldOk.j0])
 | succ kj1 =>
  have H := HA.out
  clear HA
  simp only [spec_WorldOk.j0] at H
  by_cases c36 : x48_1 = true
  ·subst c36
   rw [if_pos rfl] at H
   obtain rfl := Option.some.inj H
   go_wp2
   go_ret
   exact ⟨Pst.e1, Pst.bes⟩
  replace c36 := Bool.eq_false_iff.mpr c36
  subst c36
  rw [if_neg Pst.ft] at H
  have H' := Pst.A H
  clear H
  go_wp2
  go_loopg [3] kj1 (fun kq v3 w' => ∃ (x3_2 : Int), v3 = .int .i64 x3_2 ∧ Aside0 (spec_WorldOk.l0 kq x3_2 a0_0 a0_1 a0_2 l0_3 l0_4 a0_5 a0_6 l0_7 a0_8 a0_9 a0_10 a0_11 l0_12 a0_13 a0_14 a0_15 = some r) ∧ Aside0 (kq ≤ kj1) ∧ Aside0 (w'.heap[gb275]? = some (.cells #[.int .i64 a0_0, .int .i64 a0_1, .int .i64 a0_2, (.slice A0_3 l0_3.length c0_3), (.slice A0_4 l0_4.length c0_4), .int .i64 a0_5, .int .i64 a0_6, (.slice A0_7 l0_7.length c0_7), .int .i64 a0_8, .int .i64 a0_9, .int .i64 a0_10, .int .i64 a0_11, (.slice A0_12 l0_12.length c0_12), .int .i64 a0_13, .int .i64 a0_14, .int .i64 a0_15] 44 (0, 0))) ∧ Aside0 (Below w.heap.size w w'))
  case atStart => exact ⟨(0), Pst.e2, H', ⟨Nat.le_refl _⟩, ⟨by exact Pst.qb BK275.out⟩, ⟨Pst.bes⟩⟩
  clear H'
  try clear c1
  try clear p2
  try clear q2
  try clear hx2
  try clear qi2
  try clear c3
  try clear c4
  try clear c5
  try clear c6
  try clear c6b0
  try clear c6b1
  try clear c7
  try clear c7b0
  try clear c7b1
  try clear c8
  try clear c8b0
  try clear c8b1
  try clear c10
  try clear c12
  try clear c14
  try clear c19
  try clear p27
  try clear q27
  try clear hx27
  try clear qi27
  try clear c36
  try clear hx277_0
  try clear hx277_1
  try clear hx277_2
  try clear p2
  try clear p27
  try clear p277
  try clear q2
  try clear q27
  try clear q277
  obtain ⟨x3_2, rfl, HA, HK2, BK275, HB⟩ := hrel
  cases gk with
  | zero => exact absurd HA.out (by simp [spec_WorldOk.l0])
  | succ k2 =>
   have H := HA.out
   clear HA
   simp only [spec_WorldOk.l0] at H
   by_cases c37 : x3_2 < (l0_12.length : Int)
   ·rw [if_pos c37] at H
    have c37b0 : decide (x3_2 < (l0_12.length : Int)) = true := decide_eq_true c37
    clear c37
    by_cases c38 : 0 ≤ x3_2
    ·rw [if_pos c38] at H
     have c38b0 : decide (0 ≤ x3_2) = true := decide_eq_true c38
     clear c38
     obtain ⟨t283, A390, H⟩ := Pst.bd H
     have A39 := Pst.A A390
     clear A390
     by_cases c40 : t283 = true
     ·subst c40
      rw [if_pos rfl] at H
      have H' := Pst.A H
      clear H
      obtain ⟨hcz41_0, hcz41_1, hcz41_2, hcz41_3, hcz41_4, hcz41_5, hcz41_6, hcz41_7, hcz41_8, hcz41_9, hcz41_10, hcz41_11, hcz41_12, hcz41_13, hcz41_14, hcz41_15⟩ := Pst.c16 BK275.out
      obtain ⟨hfz41_0, hfz41_1, hfz41_2, hfz41_3, hfz41_4, hfz41_5, hfz41_6, hfz41_7, hfz41_8, hfz41_9, hfz41_10, hfz41_11, hfz41_12, hfz41_13, hfz41_14, hfz41_15⟩ := Pst.f16 BK275.out
      have p282 : 0 ≤ (x3_2 : Int) := Pst.da
      have q282 : x3_2 < (l0_12.length : Int) := Pst.da
      obtain ⟨ad282, e282, hx282_0⟩ := Kd.at_int HR0_12.out x3_2 p282 q282
      cases e282
      replace hx282_0 := (HB.out.cell (World.block_lt_of_cell? w _ hx282_0)).trans hx282_0
      replace p282 := eq_true p282
      replace q282 := eq_true q282
      go_wp2_with (first | ((with_reducible refine gate_callee (f := 42) rfl ?_); refine goesL_ (some 61) rfl rfl Tryz.func42 (by kernel_rfl) rfl #[.int .i64 (rd l0_12 x3_2), .int .i64 0, .int .i64 100000] rfl Pst.ga ?_; (with_reducible refine (spec_l01In.calls (rd l0_12 x3_2) 0 100000 true _ A39.out).mono ?_); rintro e w' ⟨rfl, ⟨nd, rfl⟩⟩; refine ⟨_, rfl, ?_⟩))
      go_roundg k2
      case measure => have := HJ1.out; have := HK2.out; omega
      case rel => exact ⟨(wrap64 (x3_2 + 1)), Pst.e2, H', ⟨by have := HJ1.out; have := HK2.out; omega⟩, ⟨by exact Pst.qb BK275.out⟩, ⟨Pst.bes⟩⟩
     replace c40 := Bool.eq_false_iff.mpr c40
     subst c40
     rw [if_neg Pst.ft] at H
     obtain rfl := Option.some.inj H
     obtain ⟨hcz42_0, hcz42_1, hcz42_2, hcz42_3, hcz42_4, hcz42_5, hcz42_6, hcz42_7, hcz42_8, hcz42_9, hcz42_10, hcz42_11, hcz42_12, hcz42_13, hcz42_14, hcz42_15⟩ := Pst.c16 BK275.out
     obtain ⟨hfz42_0, hfz42_1, hfz42_2, hfz42_3, hfz42_4, hfz42_5, hfz42_6, hfz42_7, hfz42_8, hfz42_9, hfz42_10, hfz42_11, hfz42_12, hfz42_13, hfz42_14, hfz42_15⟩ := Pst.f16 BK275.out
     have p282 : 0 ≤ (x3_2 : Int) := Pst.da
     have q282 : x3_2 < (l0_12.length : Int) := Pst.da
     obtain ⟨ad282, e282, hx282_0⟩ := Kd.at_int HR0_12.out x3_2 p282 q282
     cases e282
     replace hx282_0 := (HB.out.cell (World.block_lt_of_cell? w _ hx282_0)).trans hx282_0
     replace p282 := eq_true p282
     replace q282 := eq_true q282
     go_wp2_with (first | ((with_reducible refine gate_callee (f := 42) rfl ?_); refine goesL_ (some 61) rfl rfl Tryz.func42 (by kernel_rfl) rfl #[.int .i64 (rd l0_12 x3_2), .int .i64 0, .int .i64 100000] rfl Pst.ga ?_; (with_reducible refine (spec_l01In.calls (rd l0_12 x3_2) 0 100000 false _ A39.out).mono ?_); rintro e w' ⟨rfl, ⟨nd, rfl⟩⟩; refine ⟨_, rfl, ?_⟩))
     go_ret
     exact ⟨Pst.e1, Pst.bes⟩
    rw [if_neg c38] at H
    exact absurd H (by simp)
   rw [if_neg c37] at H
   have c37b0 : decide (x3_2 < (l0_12.length : Int)) = false := decide_eq_false c37
   clear c37
   obtain rfl := Option.some.inj H
   obtain ⟨hcz43_0, hcz43_1, hcz43_2, hcz43_3, hcz43_4, hcz43_5, hcz43_6, hcz43_7, hcz43_8, hcz43_9, hcz43_10, hcz43_11, hcz43_12, hcz43_13, hcz43_14, hcz43_15⟩ := Pst.c16 BK275.out
   obtain ⟨hfz43_0, hfz43_1, hfz43_2, hfz43_3, hfz43_4, hfz43_5, hfz43_6, hfz43_7, hfz43_8, hfz43_9, hfz43_10, hfz43_11, hfz43_12, hfz43_13, hfz43_14, hfz43_15⟩ := Pst.f16 BK275.out
   go_wp2
   go_ret
   exact ⟨Pst.e1, Pst.bes⟩
theorem spec_WorldOk.j0.st {x48 : Bool} {x276000 : Int} {x276001 : Int} {x276002 : Int} {x276003 : List (S82)} {x276004 : List (S102)} {x276005 : Int} {x276006 : Int} {x276007 : List (S102)} {x276008 : Int} {x276009 : Int} {x276010 : Int} {x276011 : Int} {x276012 : List Int} {x276013 : Int} {x276014 : Int} {x276015 : Int} {r : (Bool)} (H : Ev (fun k => if x48 = true then (some false) else (spec_WorldOk.l0 k 0 x276000 x276001 x276002 x276003 x276004 x276005 x276006 x276007 x276008 x276009 x276010 x276011 x276012 x276013 x276014 x276015)) r) : Ev (fun k => spec_WorldOk.j0 k x48 x276000 x276001 x276002 x276003 x276004 x276005 x276006 x276007 x276008 x276009 x276010 x276011 x276012 x276013 x276014 x276015) r := Ev.step (fun k => spec_WorldOk.j0.eq_2 x48 x276000 x276001 x276002 x276003 x276004 x276005 x276006 x276007 x276008 x276009 x276010 x276011 x276012 x276013 x276014 x276015 k) H
theorem spec_WorldOk.l0.st {x3 : Int} {x276000 : Int} {x276001 : Int} {x276002 : Int} {x276003 : List (S82)} {x276004 : List (S102)} {x276005 : Int} {x276006 : Int} {x276007 : List (S102)} {x276008 : Int} {x276009 : Int} {x276010 : Int} {x276011 : Int} {x276012 : List Int} {x276013 : Int} {x276014 : Int} {x276015 : Int} {r : (Bool)} (H : Ev (fun k => if x3 < (x276012.length : Int) then (if 0 ≤ x3 then ((spec_l01In.f (rd x276012 x3) 0 100000).bind fun t283 => (if t283 = true then (spec_WorldOk.l0 k (wrap64 (x3 + 1)) x276000 x276001 x276002 x276003 x276004 x276005 x276006 x276007 x276008 x276009 x276010 x276011 x276012 x276013 x276014 x276015) else (some false))) else (none)) else (some true)) r) : Ev (fun k => spec_WorldOk.l0 k x3 x276000 x276001 x276002 x276003 x276004 x276005 x276006 x276007 x276008 x276009 x276010 x276011 x276012 x276013 x276014 x276015) r := Ev.step (fun k => spec_WorldOk.l0.eq_2 x3 x276000 x276001 x276002 x276003 x276004 x276005 x276006 x276007 x276008 x276009 x276010 x276011 x276012 x276013 x276014 x276015 k) H

/-! ### spec_ParseWorld: function 5 -/
def spec_ParseWorld.l0 (k : Nat) : List ByteArray → List Int → Option (Option (List Int))
 | [], acc => some (some acc)
 | x :: xs, acc => (spec_ParseMilli.f k x).bind fun r => if r.2 = true then spec_ParseWorld.l0 k xs (acc ++ [r.1]) else some none
/-- What stands behind the loads. -/
def spec_ParseWorld.fin (k : Nat) (a b c : Int) (g : List S82) (p : List S102) (d e : Int) (q : List S102) (m n i j : Int) (wa st co : Int) : Option (List Int) → Option WorldB
 | none => some noWorld
 | some L => (spec_WorldOk.f k a b c g p d e q m n i j L wa st co).bind fun ok => if ok = true then some (a, b, c, g, p, d, e, q, m, n, i, j, L, wa, st, co, true) else some noWorld
/-- The first five words are as they must be. -/
def spec_ParseWorld.head (P : List ByteArray) : Bool := decide (6 ≤ P.length) && ((rdOf ByteArray.empty P 1).toList == ([119, 97, 114, 109] : List UInt8) && ((rdOf ByteArray.empty P 3).toList == ([101, 97, 99, 104] : List UInt8) && (decide (2 ≤ (rdOf ByteArray.empty P 4).size) && decide (bt (rdOf ByteArray.empty P 4) ((rdOf ByteArray.empty P 4).size - 1 : Int) = 58))))
def spec_ParseWorld.f (k : Nat) (a0 : ByteArray) (a b c : Int) (g : List S82) (p : List S102) (d e : Int) (q : List S102) (m n i j : Int) : Option WorldB :=
 if 300 < a0.size then some noWorld else
 (spec_l01Parts.f k a0 32).bind fun P => if 1000 < (rdOf ByteArray.empty P 4).size ∨ 1000 < P.length then none else if spec_ParseWorld.head P = true then
  ((spec_l01Read.f k (rdOf ByteArray.empty P 0)).bind fun co => (spec_l01Read.f k (rdOf ByteArray.empty P 2)).bind fun wa => (spec_l01Read.f k ((rdOf ByteArray.empty P 4).extract 0 ((rdOf ByteArray.empty P 4).size - 1))).bind fun st =>
   if co.2 = true ∧ wa.2 = true ∧ st.2 = true then
    ((spec_l08Setup.f k a b c g p d e q m n i j).bind fun s => (spec_ParseWorld.l0 k (P.drop 5) []).bind fun o => spec_ParseWorld.fin k s.1 s.2.1 s.2.2.1 s.2.2.2.1 s.2.2.2.2.1 s.2.2.2.2.2.1 s.2.2.2.2.2.2.1 s.2.2.2.2.2.2.2.1 s.2.2.2.2.2.2.2.2.1 s.2.2.2.2.2.2.2.2.2.1 s.2.2.2.2.2.2.2.2.2.2.1 s.2.2.2.2.2.2.2.2.2.2.2 wa.1 st.1 co.1 o)
   else some noWorld)
 else some noWorld
theorem spec_ParseWorld.mono_l : ∀ xs acc k, LeO (spec_ParseWorld.l0 k xs acc) (spec_ParseWorld.l0 (k + 1) xs acc)
 | [], _, _ => LeO.refl _
 | x :: xs, acc, k => LeO.bind (spec_ParseMilli.mono _ _) fun _ => LeO.ite (spec_ParseWorld.mono_l xs _ k) (LeO.refl _)
theorem spec_ParseWorld.mono : ∀ a0 a b c g p d e q m n i j k, LeO (spec_ParseWorld.f k a0 a b c g p d e q m n i j) (spec_ParseWorld.f (k + 1) a0 a b c g p d e q m n i j) := by
 intro a0 a b c g p d e q m n i j k
 refine LeO.ite (LeO.refl _) (LeO.bind (spec_l01Parts.mono _ _ _) fun P => LeO.ite (LeO.none _) (LeO.ite (LeO.bind (spec_l01Read.mono _ _) fun co => LeO.bind (spec_l01Read.mono _ _) fun wa => LeO.bind (spec_l01Read.mono _ _) fun st => LeO.ite (LeO.bind (spec_l08Setup.mono _ _ _ _ _ _ _ _ _ _ _ _ _) fun s => LeO.bind (spec_ParseWorld.mono_l _ _ _) fun o => ?_) (LeO.refl _)) (LeO.refl _)))
 cases o with
 | none => exact LeO.refl _
 | some L => exact LeO.bind (spec_WorldOk.mono _ _ _ _ _ _ _ _ _ _ _ _ _ _ _ _ _) fun _ => LeO.refl _
--CALLS
theorem spec_ParseWorld.calls (k : Nat) (a0 : ByteArray) (a1_0 : Int) (a1_1 : Int) (a1_2 : Int) (A1_3 : Option Addr) (c1_3 : Nat) (l1_3 : List (S82)) (A1_4 : Option Addr) (c1_4 : Nat) (l1_4 : List (S102)) (a1_5 : Int) (a1_6 : Int) (A1_7 : Option Addr) (c1_7 : Nat) (l1_7 : List (S102)) (a1_8 : Int) (a1_9 : Int) (a1_10 : Int) (a1_11 : Int) (r1 : Int) (r2 : Int) (r3 : Int) (r4 : List (S82)) (r5 : List (S102)) (r6 : Int) (r7 : Int) (r8 : List (S102)) (r9 : Int) (r10 : Int) (r11 : Int) (r12 : Int) (r13 : List Int) (r14 : Int) (r15 : Int) (r16 : Int) (r17 : Bool) (w : World) (hr1_3 : Kd.C k82 w A1_3 l1_3.length l1_3) (hc1_3 : l1_3.length ≤ c1_3) (hr1_4 : Kd.C k102 w A1_4 l1_4.length l1_4) (hc1_4 : l1_4.length ≤ c1_4) (hr1_7 : Kd.C k102 w A1_7 l1_7.length l1_7) (hc1_7 : l1_7.length ≤ c1_7) (h : spec_ParseWorld.f k a0 a1_0 a1_1 a1_2 l1_3 l1_4 a1_5 a1_6 l1_7 a1_8 a1_9 a1_10 a1_11 = some (r1, r2, r3, r4, r5, r6, r7, r8, r9, r10, r11, r12, r13, r14, r15, r16, r17)) :
 Calls Tryz.prog 5 #[.string a0, .agg #[.int .i64 a1_0, .int .i64 a1_1, .int .i64 a1_2, .slice A1_3 l1_3.length c1_3, .slice A1_4 l1_4.length c1_4, .int .i64 a1_5, .int .i64 a1_6, .slice A1_7 l1_7.length c1_7, .int .i64 a1_8, .int .i64 a1_9, .int .i64 a1_10, .int .i64 a1_11]] w fun e w' => ∃ v3_ v4_ v7_ v12_ : Value, e = .returned (.tuple #[.agg #[.int .i64 r1, .int .i64 r2, .int .i64 r3, v3_, v4_, .int .i64 r6, .int .i64 r7, v7_, .int .i64 r9, .int .i64 r10, .int .i64 r11, .int .i64 r12, v12_, .int .i64 r14, .int .i64 r15, .int .i64 r16], .bool r17]) ∧ Kd.R k82 82 w' w.heap.size (fun _ => True) v3_ r4 ∧ Kd.R k102 102 w' w.heap.size (fun k_ => some k_ ≠ (v7_ : Value).ownBlock) v4_ r5 ∧ Kd.R k102 102 w' w.heap.size (fun k_ => some k_ ≠ (v4_ : Value).ownBlock) v7_ r8 ∧ Kd.R (Kd.int .i64) 3 w' w.heap.size (fun _ => True) v12_ r13 ∧ Below w.heap.size w w' := by
 have hu41 := Tryz.underlying41
 have hu44 := Tryz.underlying44
 have HR3 := Pst.A hr1_3
 have HR4 := Pst.A hr1_4
 have HR7 := Pst.A hr1_7
 have HC3 := Pst.A hc1_3
 have HC4 := Pst.A hc1_4
 have HC7 := Pst.A hc1_7
 clear hr1_3 hr1_4 hr1_7 hc1_3 hc1_4 hc1_7
 have HB := Pst.A (Below.refl w.heap.size w)
 by_cases hlong : 300 < a0.size
 ·unfold spec_ParseWorld.f at h
  rw [if_pos hlong] at h
  obtain ⟨rfl, rfl, rfl, rfl, rfl, rfl, rfl, rfl, rfl, rfl, rfl, rfl, rfl, rfl, rfl, rfl, rfl⟩ := noWorldIs h
  have hl1 : decide (300 < a0.size) = true := decide_eq_true hlong
  have hl2 : decide (300 < (a0.size : Int)) = true := decide_eq_true (by omega)
  clear h hlong
  go_enter Tryz.func5, Tryz.ntmps5
  go_wp2_with (first
   | ((with_reducible refine gate_dst (N := 3) rfl ?_); refine Pst.bx 3 #[.int .i64 a1_0, .int .i64 a1_1, .int .i64 a1_2, .slice A1_3 l1_3.length c1_3, .slice A1_4 l1_4.length c1_4, .int .i64 a1_5, .int .i64 a1_6, .slice A1_7 l1_7.length c1_7, .int .i64 a1_8, .int .i64 a1_9, .int .i64 a1_10, .int .i64 a1_11] 41 ?_; intro g3 hg wg3 hbox hb; have n0_ := Pst.A (below_step Pst.bel hb); have n1_ := Pst.A hbox; have n2_ := Pst.A (Pst.gs hg : w.heap.size ≤ g3); clear HB; have HB := n0_; have BKg3 := n1_; have GEg3 := n2_; clear n0_ n1_ n2_ ; clear hb hbox hg)
   | ((with_reducible refine gate_dst (N := 4) rfl ?_); refine Pst.bx 4 #[.int .i64 0, .int .i64 0, .int .i64 0, .slice none 0 0, .slice none 0 0, .int .i64 0, .int .i64 0, .slice none 0 0, .int .i64 0, .int .i64 0, .int .i64 0, .int .i64 0, .slice none 0 0, .int .i64 0, .int .i64 0, .int .i64 0] 44 ?_; intro g4 hg wg4 hbox hb; have n0_ := Pst.A (below_step Pst.bel hb); have n1_ := Pst.A hbox; have n2_ := Pst.A (Pst.gs hg : w.heap.size ≤ g4); have m0_ := Pst.A (Pst.kb BKg3.out hb); clear HB; have HB := n0_; have BKg4 := n1_; have GEg4 := n2_; clear BKg3; have BKg3 := m0_; clear n0_ n1_ n2_ m0_; clear hb hbox hg)
   | ((with_reducible refine gate_dst (N := 6) rfl ?_); refine Pst.bx 6 #[.int .i64 0, .int .i64 0, .int .i64 0, .slice none 0 0, .slice none 0 0, .int .i64 0, .int .i64 0, .slice none 0 0, .int .i64 0, .int .i64 0, .int .i64 0, .int .i64 0, .slice none 0 0, .int .i64 0, .int .i64 0, .int .i64 0] 44 ?_; intro g6 hg wg6 hbox hb; have NE36 := Pst.A (show ¬ g3 = g6 from fun e_ => absurd (show g3 < g6 by rw [hg]; exact blk_lt (Pst.qb BKg3.out)) (by omega)); have NE46 := Pst.A (show ¬ g4 = g6 from fun e_ => absurd (show g4 < g6 by rw [hg]; exact blk_lt (Pst.qb BKg4.out)) (by omega)); have n0_ := Pst.A (below_step Pst.bel hb); have n1_ := Pst.A hbox; have n2_ := Pst.A (Pst.gs hg : w.heap.size ≤ g6); have m0_ := Pst.A (Pst.kb BKg3.out hb); have m1_ := Pst.A (Pst.kb BKg4.out hb); clear HB; have HB := n0_; have BKg6 := n1_; have GEg6 := n2_; clear BKg3; have BKg3 := m0_; clear BKg4; have BKg4 := m1_; clear n0_ n1_ n2_ m0_ m1_; clear hb hbox hg)
   | ((with_reducible refine gate_ (.store 44 (.tmp 6) (.tmp 18)) rfl ?_); refine storeAll rfl 44 (.tmp 6) (.tmp 18) rfl g6 #[.int .i64 0, .int .i64 0, .int .i64 0, .slice none 0 0, .slice none 0 0, .int .i64 0, .int .i64 0, .slice none 0 0, .int .i64 0, .int .i64 0, .int .i64 0, .int .i64 0, .slice none 0 0, .int .i64 0, .int .i64 0, .int .i64 0] rfl rfl 44 #[.int .i64 0, .int .i64 0, .int .i64 0, .slice none 0 0, .slice none 0 0, .int .i64 0, .int .i64 0, .slice none 0 0, .int .i64 0, .int .i64 0, .int .i64 0, .int .i64 0, .slice none 0 0, .int .i64 0, .int .i64 0, .int .i64 0] ?hb (by kernel_rfl) rfl (by simp [oneInt, oneSlice]) ?_; (case hb => exact Pst.qb BKg6.out); intro ws hbs hgs; have n_ := Pst.A (pw_below_grown Pst.bel (some g6) (below_size Pst.bel) hgs (fun k_ hk_ => by cases hk_; exact GEg6.out)); have m1_ := Pst.A (blk_grown (Pst.qb BKg3.out) hgs (fun e_ => NE36.out (Option.some.inj e_))); have m2_ := Pst.A (blk_grown (Pst.qb BKg4.out) hgs (fun e_ => NE46.out (Option.some.inj e_))); clear HB BKg3 BKg4 BKg6; have HB := n_; have BKg3 := m1_; have BKg4 := m2_; have BKg6 := Pst.A hbs; clear n_ m1_ m2_ hbs hgs)
   | (go_at_call 15; refine (spec_l01Parts.calls k a0 32 P _ AP.out).mono ?_; rintro e w5 ⟨v6, rfl, hR6, hb⟩; have m3_ := Pst.A hR6; have m0_ := Pst.A (below_step Pst.bel hb); have m1_ := Pst.A (Pst.kb BKg3.out hb); have m2_ := Pst.A (Pst.kb BKg4.out hb); have m4_ := Pst.A (Pst.kb BKg6.out hb); clear hR6 hb; clear HB BKg3 BKg4 BKg6; have HB := m0_; have BKg3 := m1_; have BKg4 := m2_; have BKg6 := m4_; have HR6 := m3_; clear m0_ m1_ m2_ m3_ m4_; obtain ⟨A6, c6, e6⟩ := Kd.R_slice HR6.out; subst e6)
   | ((with_reducible refine gate_ (.load 44 (.tmp 6)) rfl ?_); (try (refine gate_guard (by rfl) ?_; dsimp only)); refine wpList_load_row rfl 44 (.tmp 6) rfl g6 rfl 44 _ _ _ (Pst.qb BKg6.out) Tryz.underlying44 rfl (by kernel_rfl) ?_)
   | ((with_reducible refine gate_ (.store 44 (.tmp 4) (.tmp 22)) rfl ?_); refine storeAll rfl 44 (.tmp 4) (.tmp 22) rfl g4 #[.int .i64 0, .int .i64 0, .int .i64 0, .slice none 0 0, .slice none 0 0, .int .i64 0, .int .i64 0, .slice none 0 0, .int .i64 0, .int .i64 0, .int .i64 0, .int .i64 0, .slice none 0 0, .int .i64 0, .int .i64 0, .int .i64 0] rfl rfl 44 #[.int .i64 0, .int .i64 0, .int .i64 0, .slice none 0 0, .slice none 0 0, .int .i64 0, .int .i64 0, .slice none 0 0, .int .i64 0, .int .i64 0, .int .i64 0, .int .i64 0, .slice none 0 0, .int .i64 0, .int .i64 0, .int .i64 0] ?hb (by kernel_rfl) rfl (by simp [oneInt, oneSlice]) ?_; (case hb => exact Pst.qb BKg4.out); intro ws hbs hgs; have n_ := Pst.A (pw_below_grown Pst.bel (some g4) (below_size Pst.bel) hgs (fun k_ hk_ => by cases hk_; exact GEg4.out)); clear HB; have HB := n_; clear n_; have BKz := Pst.A hbs; clear hbs hgs))
  refine bodyPost_ret (results_ct rfl _ _ g4 44 #[.int .i64 0, .int .i64 0, .int .i64 0, .slice none 0 0, .slice none 0 0, .int .i64 0, .int .i64 0, .slice none 0 0, .int .i64 0, .int .i64 0, .int .i64 0, .int .i64 0, .slice none 0 0, .int .i64 0, .int .i64 0, .int .i64 0] (0, 0) _ rfl BKz.out Tryz.underlying44 rfl (by kernel_rfl)) rfl ?_
  exact ⟨_, _, _, _, rfl, Kd.R_nil _ _ _ _ _, Kd.R_nil _ _ _ _ _, Kd.R_nil _ _ _ _ _, Kd.R_nil _ _ _ _ _, Pst.bel⟩
 unfold spec_ParseWorld.f at h
 rw [if_neg hlong] at h
 have hl1 : decide (300 < a0.size) = false := decide_eq_false hlong
 have hl2 : decide (300 < (a0.size : Int)) = false := decide_eq_false (by omega)
 clear hlong
 obtain ⟨P, AP, H⟩ := Option.bind_eq_some_iff.1 h
 replace AP := Pst.A AP
 by_cases hbig : 1000 < (rdOf ByteArray.empty P 4).size ∨ 1000 < P.length
 ·rw [if_pos hbig] at H
  cases H
 rw [if_neg hbig] at H
 have HXS := Pst.A (show (rdOf ByteArray.empty P 4).size ≤ 1000 by omega)
 have HPM := Pst.A (show P.length ≤ 1000 by omega)
 replace H := Pst.A H
 clear h hbig
 go_enter Tryz.func5, Tryz.ntmps5
 go_upto_region 5 with (first
  | ((with_reducible refine gate_dst (N := 3) rfl ?_); refine Pst.bx 3 #[.int .i64 a1_0, .int .i64 a1_1, .int .i64 a1_2, .slice A1_3 l1_3.length c1_3, .slice A1_4 l1_4.length c1_4, .int .i64 a1_5, .int .i64 a1_6, .slice A1_7 l1_7.length c1_7, .int .i64 a1_8, .int .i64 a1_9, .int .i64 a1_10, .int .i64 a1_11] 41 ?_; intro g3 hg wg3 hbox hb; have n0_ := Pst.A (below_step Pst.bel hb); have n1_ := Pst.A hbox; have n2_ := Pst.A (Pst.gs hg : w.heap.size ≤ g3); clear HB; have HB := n0_; have BKg3 := n1_; have GEg3 := n2_; clear n0_ n1_ n2_ ; clear hb hbox hg)
  | ((with_reducible refine gate_dst (N := 4) rfl ?_); refine Pst.bx 4 #[.int .i64 0, .int .i64 0, .int .i64 0, .slice none 0 0, .slice none 0 0, .int .i64 0, .int .i64 0, .slice none 0 0, .int .i64 0, .int .i64 0, .int .i64 0, .int .i64 0, .slice none 0 0, .int .i64 0, .int .i64 0, .int .i64 0] 44 ?_; intro g4 hg wg4 hbox hb; have n0_ := Pst.A (below_step Pst.bel hb); have n1_ := Pst.A hbox; have n2_ := Pst.A (Pst.gs hg : w.heap.size ≤ g4); have m0_ := Pst.A (Pst.kb BKg3.out hb); clear HB; have HB := n0_; have BKg4 := n1_; have GEg4 := n2_; clear BKg3; have BKg3 := m0_; clear n0_ n1_ n2_ m0_; clear hb hbox hg)
  | ((with_reducible refine gate_dst (N := 6) rfl ?_); refine Pst.bx 6 #[.int .i64 0, .int .i64 0, .int .i64 0, .slice none 0 0, .slice none 0 0, .int .i64 0, .int .i64 0, .slice none 0 0, .int .i64 0, .int .i64 0, .int .i64 0, .int .i64 0, .slice none 0 0, .int .i64 0, .int .i64 0, .int .i64 0] 44 ?_; intro g6 hg wg6 hbox hb; have NE36 := Pst.A (show ¬ g3 = g6 from fun e_ => absurd (show g3 < g6 by rw [hg]; exact blk_lt (Pst.qb BKg3.out)) (by omega)); have NE46 := Pst.A (show ¬ g4 = g6 from fun e_ => absurd (show g4 < g6 by rw [hg]; exact blk_lt (Pst.qb BKg4.out)) (by omega)); have n0_ := Pst.A (below_step Pst.bel hb); have n1_ := Pst.A hbox; have n2_ := Pst.A (Pst.gs hg : w.heap.size ≤ g6); have m0_ := Pst.A (Pst.kb BKg3.out hb); have m1_ := Pst.A (Pst.kb BKg4.out hb); clear HB; have HB := n0_; have BKg6 := n1_; have GEg6 := n2_; clear BKg3; have BKg3 := m0_; clear BKg4; have BKg4 := m1_; clear n0_ n1_ n2_ m0_ m1_; clear hb hbox hg)
  | ((with_reducible refine gate_ (.store 44 (.tmp 6) (.tmp 18)) rfl ?_); refine storeAll rfl 44 (.tmp 6) (.tmp 18) rfl g6 #[.int .i64 0, .int .i64 0, .int .i64 0, .slice none 0 0, .slice none 0 0, .int .i64 0, .int .i64 0, .slice none 0 0, .int .i64 0, .int .i64 0, .int .i64 0, .int .i64 0, .slice none 0 0, .int .i64 0, .int .i64 0, .int .i64 0] rfl rfl 44 #[.int .i64 0, .int .i64 0, .int .i64 0, .slice none 0 0, .slice none 0 0, .int .i64 0, .int .i64 0, .slice none 0 0, .int .i64 0, .int .i64 0, .int .i64 0, .int .i64 0, .slice none 0 0, .int .i64 0, .int .i64 0, .int .i64 0] ?hb (by kernel_rfl) rfl (by simp [oneInt, oneSlice]) ?_; (case hb => exact Pst.qb BKg6.out); intro ws hbs hgs; have n_ := Pst.A (pw_below_grown Pst.bel (some g6) (below_size Pst.bel) hgs (fun k_ hk_ => by cases hk_; exact GEg6.out)); have m1_ := Pst.A (blk_grown (Pst.qb BKg3.out) hgs (fun e_ => NE36.out (Option.some.inj e_))); have m2_ := Pst.A (blk_grown (Pst.qb BKg4.out) hgs (fun e_ => NE46.out (Option.some.inj e_))); clear HB BKg3 BKg4 BKg6; have HB := n_; have BKg3 := m1_; have BKg4 := m2_; have BKg6 := Pst.A hbs; clear n_ m1_ m2_ hbs hgs)
  | (go_at_call 15; refine (spec_l01Parts.calls k a0 32 P _ AP.out).mono ?_; rintro e w5 ⟨v6, rfl, hR6, hb⟩; have m3_ := Pst.A hR6; have m0_ := Pst.A (below_step Pst.bel hb); have m1_ := Pst.A (Pst.kb BKg3.out hb); have m2_ := Pst.A (Pst.kb BKg4.out hb); have m4_ := Pst.A (Pst.kb BKg6.out hb); clear hR6 hb; clear HB BKg3 BKg4 BKg6; have HB := m0_; have BKg3 := m1_; have BKg4 := m2_; have BKg6 := m4_; have HR6 := m3_; clear m0_ m1_ m2_ m3_ m4_; obtain ⟨A6, c6, e6⟩ := Kd.R_slice HR6.out; subst e6)
  | ((with_reducible refine gate_ (.load 44 (.tmp 6)) rfl ?_); (try (refine gate_guard (by rfl) ?_; dsimp only)); refine wpList_load_row rfl 44 (.tmp 6) rfl g6 rfl 44 _ _ _ (Pst.qb BKg6.out) Tryz.underlying44 rfl (by kernel_rfl) ?_))
 go_cut [58] (fun v58 wc => ∃ nd : Nat, v58 = .bool (!spec_ParseWorld.head P) ∧ wc = w5.drewN nd)
 case first =>
  by_cases q1 : P.length < 6
  ·have HH := Lib.hid (show spec_ParseWorld.head P = false from by unfold spec_ParseWorld.head; rw [decide_eq_false (by omega : ¬ 6 ≤ P.length)]; rfl)
   have d1 : decide (P.length < 6) = true := decide_eq_true q1
   have d2 : decide ((P.length : Int) < 6) = true := decide_eq_true (by omega)
   clear q1
   repeat (go_quiet (fail); try go_wp2)
   (try go_wp2)
   go_meet
   case rel => exact ⟨_, by rw [HH.out]; rfl, rfl⟩
  obtain ⟨gp, cp, cur, e6, hgp, hcur, hpc, hcm, hS⟩ := ownStrings HR6.out (by omega)
  obtain ⟨rfl, rfl⟩ : A6 = some ⟨gp, 0, none⟩ ∧ c6 = cp := by injection e6 with q1 q2 q3; exact ⟨q1, q3⟩
  have d1 : decide (P.length < 6) = false := decide_eq_false q1
  have d2 : decide ((P.length : Int) < 6) = false := decide_eq_false (by omega)
  have i1 : (1 < (P.length : Int)) = True := eq_true (by omega)
  have i3 : (3 < (P.length : Int)) = True := eq_true (by omega)
  have i4 : (4 < (P.length : Int)) = True := eq_true (by omega)
  have x1 := (blk_cell hcur 1).trans (hS 1 (by omega))
  have x3 := (blk_cell hcur 3).trans (hS 3 (by omega))
  have x4 := (blk_cell hcur 4).trans (hS 4 (by omega))
  have hhead : spec_ParseWorld.head P = ((rdOf ByteArray.empty P 1).toList == ([119, 97, 114, 109] : List UInt8) && ((rdOf ByteArray.empty P 3).toList == ([101, 97, 99, 104] : List UInt8) && (decide (2 ≤ (rdOf ByteArray.empty P 4).size) && decide (bt (rdOf ByteArray.empty P 4) ((rdOf ByteArray.empty P 4).size - 1 : Int) = 58)))) := by
   unfold spec_ParseWorld.head
   rw [decide_eq_true (by omega : 6 ≤ P.length)]
   rfl
  have hXs : (rdOf ByteArray.empty P 4).size ≤ 1000 := HXS.out
  replace x1 : w5.cell? ⟨gp, 1, none⟩ = some (.string (rdOf ByteArray.empty P 1)) := x1
  replace x3 : w5.cell? ⟨gp, 3, none⟩ = some (.string (rdOf ByteArray.empty P 3)) := x3
  replace x4 : w5.cell? ⟨gp, 4, none⟩ = some (.string (rdOf ByteArray.empty P 4)) := x4
  clear e6 hgp hcur hS hpc hcm q1
  generalize hX1 : rdOf ByteArray.empty P 1 = X1 at x1 hhead
  generalize hX3 : rdOf ByteArray.empty P 3 = X3 at x3 hhead
  generalize hX4 : rdOf ByteArray.empty P 4 = X4 at x4 hhead hXs
  have HX := Lib.hid hXs
  have HEAD := Lib.hid hhead
  clear hX1 hX3 hX4 hhead hXs
  by_cases q2 : X1.toList = ([119, 97, 114, 109] : List UInt8)
  ·have q2a : (X1.toList == ([119, 97, 114, 109] : List UInt8)) = true := by simpa using q2
   have q2b : (X1.toList != ([119, 97, 114, 109] : List UInt8)) = false := by simpa using q2
   have q2c : (!X1.toList == ([119, 97, 114, 109] : List UInt8)) = false := by rw [q2a]; rfl
   by_cases q3 : X3.toList = ([101, 97, 99, 104] : List UInt8)
   ·have q3a : (X3.toList == ([101, 97, 99, 104] : List UInt8)) = true := by simpa using q3
    have q3b : (X3.toList != ([101, 97, 99, 104] : List UInt8)) = false := by simpa using q3
    have q3c : (!X3.toList == ([101, 97, 99, 104] : List UInt8)) = false := by rw [q3a]; rfl
    by_cases q4 : X4.size < 2
    ·have q4a : decide (X4.size < 2) = true := decide_eq_true (by omega)
     have q4b : decide ((X4.size : Int) < 2) = true := decide_eq_true (by omega)
     have q5a : decide (2 ≤ X4.size) = false := decide_eq_false (by omega)
     have HH := Lib.hid (show spec_ParseWorld.head P = false from by rw [HEAD.out, q2a, q3a, q5a]; rfl)
     repeat (go_quiet (fail); try go_wp2)
     (try go_wp2)
     go_meet
     case rel => exact ⟨_, by rw [HH.out]; rfl, rfl⟩
    have q4a : decide (X4.size < 2) = false := decide_eq_false (by omega)
    have q4b : decide ((X4.size : Int) < 2) = false := decide_eq_false (by omega)
    have q5a : decide (2 ≤ X4.size) = true := decide_eq_true (by omega)
    have p0 : 0 ≤ (X4.size : Int) - 1 := by omega
    have p1 : (X4.size : Int) - 1 < (X4.size : Int) := by omega
    have p2 : (X4.size : Int) ≤ 4294967296 := by have := HX.out; omega
    have hw : IntKind.i64.wrap ((X4.size : Int) - 1) = (X4.size : Int) - 1 := by rw [i64_w]; unfold wrap64; omega
    have hx := bt_at X4 ((X4.size : Int) - 1)
    have hn : ((X4.size : Int) - 1).toNat = X4.size - 1 := by omega
    have hx2 : ∀ h : X4.size - 1 < X4.size, ((X4[X4.size - 1]).toNat : Int) = bt X4 ((X4.size : Int) - 1) := fun h => by rw [← hx (by omega)]; simp only [hn]
    have hx3 : (X4.size - 1 < X4.size) = True := eq_true (by omega)
    replace p0 := eq_true p0
    replace p1 := eq_true p1
    by_cases q6 : bt X4 ((X4.size : Int) - 1) = 58
    ·have q6a : (bt X4 ((X4.size : Int) - 1) == 58) = true := by simpa using q6
     have q6b : (bt X4 ((X4.size : Int) - 1) != 58) = false := by simpa using q6
     have q6c : (!bt X4 ((X4.size : Int) - 1) == 58) = false := by rw [q6a]; rfl
     have HH := Lib.hid (show spec_ParseWorld.head P = true from by rw [HEAD.out, q2a, q3a, q5a, decide_eq_true q6]; rfl)
     clear q6
     repeat (go_quiet (fail); try go_wp2)
     (try go_wp2)
     go_meet
     case rel => exact ⟨_, by rw [HH.out]; rfl, rfl⟩
    have q6a : (bt X4 ((X4.size : Int) - 1) == 58) = false := by simpa using q6
    have q6b : (bt X4 ((X4.size : Int) - 1) != 58) = true := by simpa using q6
    have q6c : (!bt X4 ((X4.size : Int) - 1) == 58) = true := by rw [q6a]; rfl
    have HH := Lib.hid (show spec_ParseWorld.head P = false from by rw [HEAD.out, q2a, q3a, q5a, decide_eq_false q6]; rfl)
    repeat (go_quiet (fail); try go_wp2)
    (try go_wp2)
    go_meet
    case rel => exact ⟨_, by rw [HH.out]; rfl, rfl⟩
   have q3a : (X3.toList == ([101, 97, 99, 104] : List UInt8)) = false := by simpa using q3
   have q3b : (X3.toList != ([101, 97, 99, 104] : List UInt8)) = true := by simpa using q3
   have q3c : (!X3.toList == ([101, 97, 99, 104] : List UInt8)) = true := by rw [q3a]; rfl
   have HH := Lib.hid (show spec_ParseWorld.head P = false from by rw [HEAD.out, q2a, q3a]; rfl)
   repeat (go_quiet (fail); try go_wp2)
   (try go_wp2)
   go_meet
   case rel => exact ⟨_, by rw [HH.out]; rfl, rfl⟩
  have q2a : (X1.toList == ([119, 97, 114, 109] : List UInt8)) = false := by simpa using q2
  have q2b : (X1.toList != ([119, 97, 114, 109] : List UInt8)) = true := by simpa using q2
  have q2c : (!X1.toList == ([119, 97, 114, 109] : List UInt8)) = true := by rw [q2a]; rfl
  have HH := Lib.hid (show spec_ParseWorld.head P = false from by rw [HEAD.out, q2a]; rfl)
  repeat (go_quiet (fail); try go_wp2)
  (try go_wp2)
  go_meet
  case rel => exact ⟨_, by rw [HH.out]; rfl, rfl⟩
 obtain ⟨nd, rfl, rfl⟩ := hcut
 have HB6 := Pst.A (show Below w.heap.size w (w5.drewN nd) from Pst.bel)
 have BK3 := Pst.A (show (w5.drewN nd).heap[g3]? = some (.cells #[.int .i64 a1_0, .int .i64 a1_1, .int .i64 a1_2, .slice A1_3 l1_3.length c1_3, .slice A1_4 l1_4.length c1_4, .int .i64 a1_5, .int .i64 a1_6, .slice A1_7 l1_7.length c1_7, .int .i64 a1_8, .int .i64 a1_9, .int .i64 a1_10, .int .i64 a1_11] 41 (0, 0)) from BKg3.out)
 have BK4 := Pst.A (show (w5.drewN nd).heap[g4]? = some (.cells #[.int .i64 0, .int .i64 0, .int .i64 0, .slice none 0 0, .slice none 0 0, .int .i64 0, .int .i64 0, .slice none 0 0, .int .i64 0, .int .i64 0, .int .i64 0, .int .i64 0, .slice none 0 0, .int .i64 0, .int .i64 0, .int .i64 0] 44 (0, 0)) from BKg4.out)
 have BK6 := Pst.A (show (w5.drewN nd).heap[g6]? = some (.cells #[.int .i64 0, .int .i64 0, .int .i64 0, .slice none 0 0, .slice none 0 0, .int .i64 0, .int .i64 0, .slice none 0 0, .int .i64 0, .int .i64 0, .int .i64 0, .int .i64 0, .slice none 0 0, .int .i64 0, .int .i64 0, .int .i64 0] 44 (0, 0)) from BKg6.out)
 cases hd : spec_ParseWorld.head P with
 | false =>
  have H1 := H.out
  rw [if_neg (by rw [hd]; decide)] at H1
  obtain ⟨rfl, rfl, rfl, rfl, rfl, rfl, rfl, rfl, rfl, rfl, rfl, rfl, rfl, rfl, rfl, rfl, rfl⟩ := noWorldIs H1
  clear H H1 BKg3 BKg4 BKg6 HB
  have HB := HB6
  simp only [Bool.not_false]
  clear hd
  generalize w5.drewN nd = w6 at HB6 HB BK3 BK4 BK6 ⊢
  go_wp2_with (first
   | ((with_reducible refine gate_ (.load 44 (.tmp 6)) rfl ?_); (try (refine gate_guard (by rfl) ?_; dsimp only)); refine wpList_load_row rfl 44 (.tmp 6) rfl g6 rfl 44 _ _ _ (Pst.qb BK6.out) Tryz.underlying44 rfl (by kernel_rfl) ?_)
   | ((with_reducible refine gate_ (.store 44 (.tmp 4) (.tmp 59)) rfl ?_); refine storeAll rfl 44 (.tmp 4) (.tmp 59) rfl g4 #[.int .i64 0, .int .i64 0, .int .i64 0, .slice none 0 0, .slice none 0 0, .int .i64 0, .int .i64 0, .slice none 0 0, .int .i64 0, .int .i64 0, .int .i64 0, .int .i64 0, .slice none 0 0, .int .i64 0, .int .i64 0, .int .i64 0] rfl rfl 44 #[.int .i64 0, .int .i64 0, .int .i64 0, .slice none 0 0, .slice none 0 0, .int .i64 0, .int .i64 0, .slice none 0 0, .int .i64 0, .int .i64 0, .int .i64 0, .int .i64 0, .slice none 0 0, .int .i64 0, .int .i64 0, .int .i64 0] ?hb (by kernel_rfl) rfl (by simp [oneInt, oneSlice]) ?_; (case hb => exact Pst.qb BK4.out); intro ws hbs hgs; have n_ := Pst.A (pw_below_grown Pst.bel (some g4) (below_size Pst.bel) hgs (fun k_ hk_ => by cases hk_; exact GEg4.out)); clear HB; have HB := n_; clear n_; have BKz := Pst.A hbs; clear hbs hgs))
  refine bodyPost_ret (results_ct rfl _ _ g4 44 #[.int .i64 0, .int .i64 0, .int .i64 0, .slice none 0 0, .slice none 0 0, .int .i64 0, .int .i64 0, .slice none 0 0, .int .i64 0, .int .i64 0, .int .i64 0, .int .i64 0, .slice none 0 0, .int .i64 0, .int .i64 0, .int .i64 0] (0, 0) _ rfl BKz.out Tryz.underlying44 rfl (by kernel_rfl)) rfl ?_
  exact ⟨_, _, _, _, rfl, Kd.R_nil _ _ _ _ _, Kd.R_nil _ _ _ _ _, Kd.R_nil _ _ _ _ _, Kd.R_nil _ _ _ _ _, Pst.bel⟩
 | true =>
  have H1 := H.out
  rw [if_pos hd] at H1
  obtain ⟨⟨co, bc⟩, A0, H2⟩ := Option.bind_eq_some_iff.1 H1
  clear H1
  obtain ⟨⟨wa, bw⟩, A2, H3⟩ := Option.bind_eq_some_iff.1 H2
  clear H2
  obtain ⟨⟨st, bs⟩, A4, H1⟩ := Option.bind_eq_some_iff.1 H3
  clear H3
  replace A0 := Pst.A A0
  replace A2 := Pst.A A2
  replace A4 := Pst.A A4
  replace H := Pst.A H1
  have hd2 := hd
  simp only [spec_ParseWorld.head, Bool.and_eq_true, decide_eq_true_eq] at hd2
  have HPL := Pst.A hd2.1
  have HX4 := Pst.A hd2.2.2.2.1
  obtain ⟨gp, cp, cur, e6, hgp, hcur, hpc, hcm, hS⟩ := ownStrings HR6.out (by omega)
  obtain ⟨rfl, rfl⟩ : A6 = some ⟨gp, 0, none⟩ ∧ c6 = cp := by injection e6 with q1 q2 q3; exact ⟨q1, q3⟩
  have BKp := Pst.A (show (w5.drewN nd).heap[gp]? = some (.cells cur 9 (0, 0)) from hcur)
  have HS := Pst.A hS
  have NE4p := Pst.A (show ¬ g4 = gp from fun e_ => by have h_ := BK4.out; rw [e_, BKp.out] at h_; injection h_ with h_; injection h_ with _ h_; exact absurd h_ (by decide))
  clear HB BKg3 BKg4 BKg6 hcur hS HR6 hgp H1 hd2 e6
  have HB := HB6
  simp only [Bool.not_true]
  clear hd
  generalize w5.drewN nd = w6 at HB6 HB BK3 BK4 BK6 BKp ⊢
  have i0 : (0 < P.length) = True := eq_true (by have := HPL.out; omega)
  have i2 : (2 < (P.length : Int)) = True := eq_true (by have := HPL.out; omega)
  have i4 : (4 < (P.length : Int)) = True := eq_true (by have := HPL.out; omega)
  have x0 : w6.cell? ⟨gp, 0, none⟩ = some (.string (rdOf ByteArray.empty P 0)) := (blk_cell BKp.out 0).trans (HS.out 0 (by have := HPL.out; omega))
  go_upto_region 9 with (first
   | (go_at_call 16; (with_reducible refine (spec_l01Read.calls k (rdOf ByteArray.empty P 0) co bc _ A0.out).mono ?_); rintro e w7 ⟨rfl, hb⟩; clear x0; have m0_ := Pst.A (below_step Pst.bel hb); have m1_ := Pst.A (Pst.kb BK3.out hb); have m2_ := Pst.A (Pst.kb BK4.out hb); have m3_ := Pst.A (Pst.kb BK6.out hb); have m4_ := Pst.A (Pst.kb BKp.out hb); clear HB BK3 BK4 BK6 BKp hb; have HB := m0_; have BK3 := m1_; have BK4 := m2_; have BK6 := m3_; have BKp := m4_; clear m0_ m1_ m2_ m3_ m4_; have x2 : w7.cell? ⟨gp, 2, none⟩ = some (.string (rdOf ByteArray.empty P 2)) := (blk_cell BKp.out 2).trans (HS.out 2 (by have := HPL.out; omega)))
   | (go_at_call 16; (with_reducible refine (spec_l01Read.calls k (rdOf ByteArray.empty P 2) wa bw _ A2.out).mono ?_); rintro e w8 ⟨rfl, hb⟩; clear x2; have m0_ := Pst.A (below_step Pst.bel hb); have m1_ := Pst.A (Pst.kb BK3.out hb); have m2_ := Pst.A (Pst.kb BK4.out hb); have m3_ := Pst.A (Pst.kb BK6.out hb); have m4_ := Pst.A (Pst.kb BKp.out hb); clear HB BK3 BK4 BK6 BKp hb; have HB := m0_; have BK3 := m1_; have BK4 := m2_; have BK6 := m3_; have BKp := m4_; clear m0_ m1_ m2_ m3_ m4_; have x4 : w8.cell? ⟨gp, 4, none⟩ = some (.string (rdOf ByteArray.empty P 4)) := (blk_cell BKp.out 4).trans (HS.out 4 (by have := HPL.out; omega))))
  have hw : IntKind.i64.wrap (((rdOf ByteArray.empty P 4).size : Int) - 1) = ((rdOf ByteArray.empty P 4).size : Int) - 1 := by rw [i64_w]; unfold wrap64; have := HX4.out; have := HXS.out; omega
  have p0 : 0 ≤ ((rdOf ByteArray.empty P 4).size : Int) - 1 := by have := HX4.out; omega
  have p1 : ((rdOf ByteArray.empty P 4).size : Int) - 1 ≤ ((rdOf ByteArray.empty P 4).size : Int) := by omega
  have p2 : (((rdOf ByteArray.empty P 4).size : Int) - 1).toNat = (rdOf ByteArray.empty P 4).size - 1 := by omega
  have p3 : 1 ≤ ((rdOf ByteArray.empty P 4).size : Int) := by have := HX4.out; omega
  have p4 : 1 ≤ (rdOf ByteArray.empty P 4).size := by have := HX4.out; omega
  go_region_held3 (fun w' => w'.cell? ⟨gp, 4, none⟩ = some (.string (rdOf ByteArray.empty P 4))) (first | go_keep | exact (blk_cell BKp.out 4).trans (HS.out 4 (by have := HPL.out; omega)))
   (first | (go_at_call 16; refine (spec_l01Read.calls k ((rdOf ByteArray.empty P 4).extract 0 ((rdOf ByteArray.empty P 4).size - 1)) st bs _ A4.out).mono ?_; rintro e w9 ⟨rfl, hb⟩; have m0_ := Pst.A (below_step Pst.bel hb); have m1_ := Pst.A (Pst.kb BK3.out hb); have m2_ := Pst.A (Pst.kb BK4.out hb); have m3_ := Pst.A (Pst.kb BK6.out hb); have m4_ := Pst.A (Pst.kb BKp.out hb); clear HB BK3 BK4 BK6 BKp hb; have HB := m0_; have BK3 := m1_; have BK4 := m2_; have BK6 := m3_; have BKp := m4_; clear m0_ m1_ m2_ m3_ m4_))
  clear hw p0 p1 p2 p3 p4
  (try clear x4)
  go_upto_region 10 with (fail)
  by_cases hall : bc = true ∧ bw = true ∧ bs = true
  ·have H1 := H.out
   rw [if_pos hall] at H1
   obtain ⟨rfl, rfl, rfl⟩ := hall
   obtain ⟨⟨s1, s2, s3, s4, s5, s6, s7, s8, s9, s10, s11, s12⟩, AO, H2⟩ := Option.bind_eq_some_iff.1 H1
   clear H1
   obtain ⟨oL, AL, H1⟩ := Option.bind_eq_some_iff.1 H2
   clear H2
   replace AO := Pst.A AO
   replace AL := Pst.A AL
   clear H
   have H := Pst.A H1
   clear H1
   go_wp2_with (first
    | ((with_reducible refine gate_ (.load 41 (.tmp 3)) rfl ?_); refine wpList_load_row rfl 41 (.tmp 3) rfl g3 rfl 41 _ _ _ (Pst.qb BK3.out) Tryz.underlying41 rfl (by kernel_rfl) ?_)
    | (go_at_call 17; refine (spec_l08Setup.calls k a1_0 a1_1 a1_2 A1_3 c1_3 l1_3 A1_4 c1_4 l1_4 a1_5 a1_6 A1_7 c1_7 l1_7 a1_8 a1_9 a1_10 a1_11 s1 s2 s3 s4 s5 s6 s7 s8 s9 s10 s11 s12 _ (Kd.C_below HR3.out Pst.bel) HC3.out (Kd.C_below HR4.out Pst.bel) HC4.out (Kd.C_below HR7.out Pst.bel) HC7.out AO.out).mono ?_; rintro e w10 ⟨v3, v4, v7, rfl, hr3, hr4, hr7, hb⟩; have HO3 := Pst.A (Kd.R_lower hr3 (below_size Pst.bel)); have HO4 := Pst.A (Kd.R_lower hr4 (below_size Pst.bel)); have HO7 := Pst.A (Kd.R_lower hr7 (below_size Pst.bel)); clear hr3 hr4 hr7; have m0_ := Pst.A (below_step Pst.bel hb); have m1_ := Pst.A (Pst.kb BK3.out hb); have m2_ := Pst.A (Pst.kb BK4.out hb); have m3_ := Pst.A (Pst.kb BK6.out hb); have m4_ := Pst.A (Pst.kb BKp.out hb); clear HB BK3 BK4 BK6 BKp hb; have HB := m0_; have BK3 := m1_; have BK4 := m2_; have BK6 := m3_; have BKp := m4_; clear m0_ m1_ m2_ m3_ m4_; have AK := Pst.A (Kept.refl w10 (fun _ => False)); obtain ⟨A3, c3, e3_⟩ := Kd.R_slice HO3.out; obtain ⟨A4_, c4, e4_⟩ := Kd.R_slice HO4.out; obtain ⟨A7, c7, e7_⟩ := Kd.R_slice HO7.out; subst e3_; subst e4_; subst e7_)
    | ((with_reducible refine gate_dst (N := 14) rfl ?_); refine Pst.bx 14 #[.int .i64 0, .int .i64 0, .int .i64 0, .slice none 0 0, .slice none 0 0, .int .i64 0, .int .i64 0, .slice none 0 0, .int .i64 0, .int .i64 0, .int .i64 0, .int .i64 0, .slice none 0 0, .int .i64 0, .int .i64 0, .int .i64 0] 44 ?_; intro g14 hg w14 hbox hb; have n0_ := Pst.A (below_step Pst.bel hb); have n2_ := Pst.A (show w10.heap.size ≤ g14 by rw [hg]; exact AK.out.1); have n1_ := Pst.A (Kept.below (by exact AK.out) hb); have n3_ := Pst.A (show w.heap.size ≤ g14 by rw [hg]; exact (below_size Pst.bel)); clear HB AK; have HB := n0_; have AK := n1_; have GE14 := n2_; have GW14 := n3_; have BK14 := Pst.A hbox; clear n0_ n1_ n2_ n3_ hb hbox hg)
    | ((with_reducible refine gate_ (.store 44 (.tmp 14) (.tmp 103)) rfl ?_); refine storeAll rfl 44 (.tmp 14) (.tmp 103) rfl g14 #[.int .i64 s1, .int .i64 s2, .int .i64 s3, .slice A3 s4.length c3, .slice A4_ s5.length c4, .int .i64 s6, .int .i64 s7, .slice A7 s8.length c7, .int .i64 s9, .int .i64 s10, .int .i64 s11, .int .i64 s12, .slice none 0 0, .int .i64 wa, .int .i64 st, .int .i64 co] rfl rfl 44 #[.int .i64 0, .int .i64 0, .int .i64 0, .slice none 0 0, .slice none 0 0, .int .i64 0, .int .i64 0, .slice none 0 0, .int .i64 0, .int .i64 0, .int .i64 0, .int .i64 0, .slice none 0 0, .int .i64 0, .int .i64 0, .int .i64 0] ?hb (by kernel_rfl) rfl (by simp [oneInt, oneSlice]) ?_; (case hb => exact Pst.qb BK14.out); intro w15 hbs hgs; have n0_ := Pst.A (pw_below_grown Pst.bel (some g14) (below_size Pst.bel) hgs (fun k_ hk_ => by cases hk_; exact GW14.out)); have n1_ := Pst.A (Kept.of_grown hgs (by exact AK.out) (fun k_ e_ => .inr (by cases e_; exact GE14.out))); clear HB AK BK14; have HB := n0_; have AK := n1_; have BK14 := Pst.A hbs; clear n0_ n1_ hbs hgs))
   have GS := Pst.A (show w10.heap.size ≤ w15.heap.size from AK.out.1)
   have GB := Pst.A (show g14 < w15.heap.size from blk_lt BK14.out)
   go_loopg [15] P.length (fun gg v15 wr => ∃ (ii : Nat) (acc : List Int) (v12 : Value), v15 = .int .i64 ii ∧ P.length - ii ≤ gg ∧ 5 ≤ ii ∧ ii ≤ P.length ∧ Aside0 (spec_ParseWorld.l0 k (P.drop ii) acc = some oL) ∧ Aside0 (acc.length ≤ ii) ∧ Aside0 (Below w.heap.size w wr) ∧ Aside0 (Kept w10 wr (fun _ => False)) ∧ Aside0 (wr.heap[g14]? = some (.cells #[.int .i64 s1, .int .i64 s2, .int .i64 s3, .slice A3 s4.length c3, .slice A4_ s5.length c4, .int .i64 s6, .int .i64 s7, .slice A7 s8.length c7, .int .i64 s9, .int .i64 s10, .int .i64 s11, .int .i64 s12, v12, .int .i64 wa, .int .i64 st, .int .i64 co] 44 (0, 0))) ∧ Aside0 (Kd.R (Kd.int .i64) 3 wr w.heap.size (fun k => w15.heap.size ≤ k) v12 acc) ∧ Aside0 (w15.heap.size ≤ wr.heap.size))
   case atStart => exact ⟨5, [], .slice none 0 0, rfl, by omega, by omega, by have := HPL.out; omega, AL, ⟨Nat.zero_le _⟩, HB, AK, BK14, ⟨Kd.R_nil _ _ _ _ _⟩, ⟨Nat.le_refl _⟩⟩
   clear HB AK BK14
   obtain ⟨ii, acc, v12, rfl, hgg, hi5, hii, AH, HAC, HB, AK, BK14, HL, HZ⟩ := hrel
   by_cases hlt : ii < P.length
   ·have AH2 := AH.out
    rw [dropRd P ii hlt] at AH2
    obtain ⟨⟨ld, ok⟩, Am, AH3⟩ := Option.bind_eq_some_iff.1 AH2
    replace Am := Pst.A Am
    clear AH AH2
    have hcs : wr.cell? ⟨gp, ii, none⟩ = some (.string (rdOf ByteArray.empty P (ii : Int))) := (blk_cell (blk_kept BKp.out AK.out (fun h_ => h_)) ii).trans (HS.out ii hlt)
    have hlb : decide (ii < P.length) = true := decide_eq_true hlt
    have hii2 : ii ≤ 1000 := by have := HPM.out; omega
    have hlb2 : decide ((ii : Int) < (P.length : Int)) = true := decide_eq_true (by omega)
    have hlb3 : ((ii : Int) < (P.length : Int)) = True := eq_true (by omega)
    cases ok with
    | false =>
     obtain rfl : none = oL := by simpa using AH3
     clear AH3
     have H1 := H.out
     obtain ⟨rfl, rfl, rfl, rfl, rfl, rfl, rfl, rfl, rfl, rfl, rfl, rfl, rfl, rfl, rfl, rfl, rfl⟩ := noWorldIs H1
     clear H H1
     go_wp2_with (first
      | (go_at_call 18; refine (spec_ParseMilli.calls k (rdOf ByteArray.empty P (ii : Int)) ld _ _ Am.out).mono ?_; rintro e w9 ⟨rfl, hb⟩; have m0_ := Pst.A (below_step Pst.bel hb); have m1_ := Pst.A (Kept.below (by exact AK.out) hb); have m2_ := Pst.A (Pst.kb BK14.out hb); have m3_ := Pst.A (Kd.R_below (Pst.qr HL.out) hb); clear HB AK BK14 HL; have HB := m0_; have AK := m1_; have BK14 := m2_; have HL := m3_; clear m0_ m1_ m2_ m3_ hb)
      | ((with_reducible refine gate_ (.load 44 (.tmp 6)) rfl ?_); (try (refine gate_guard (by rfl) ?_; dsimp only)); refine wpList_load_row rfl 44 (.tmp 6) rfl g6 rfl 44 _ _ _ (blk_kept BK6.out AK.out (fun h_ => h_)) Tryz.underlying44 rfl (by kernel_rfl) ?_)
      | ((with_reducible refine gate_ (.store 44 (.tmp 4) (.tmp 120)) rfl ?_); refine storeAll rfl 44 (.tmp 4) (.tmp 120) rfl g4 #[.int .i64 0, .int .i64 0, .int .i64 0, .slice none 0 0, .slice none 0 0, .int .i64 0, .int .i64 0, .slice none 0 0, .int .i64 0, .int .i64 0, .int .i64 0, .int .i64 0, .slice none 0 0, .int .i64 0, .int .i64 0, .int .i64 0] rfl rfl 44 #[.int .i64 0, .int .i64 0, .int .i64 0, .slice none 0 0, .slice none 0 0, .int .i64 0, .int .i64 0, .slice none 0 0, .int .i64 0, .int .i64 0, .int .i64 0, .int .i64 0, .slice none 0 0, .int .i64 0, .int .i64 0, .int .i64 0] ?hb (by kernel_rfl) rfl (by simp [oneInt, oneSlice]) ?_; (case hb => exact (blk_kept BK4.out AK.out (fun h_ => h_))); intro ws hbs hgs; have n_ := Pst.A (pw_below_grown Pst.bel (some g4) (below_size Pst.bel) hgs (fun k_ hk_ => by cases hk_; exact GEg4.out)); clear HB; have HB := n_; clear n_; have BKz := Pst.A hbs; clear hbs hgs))
     refine bodyPost_ret (results_ct rfl _ _ g4 44 #[.int .i64 0, .int .i64 0, .int .i64 0, .slice none 0 0, .slice none 0 0, .int .i64 0, .int .i64 0, .slice none 0 0, .int .i64 0, .int .i64 0, .int .i64 0, .int .i64 0, .slice none 0 0, .int .i64 0, .int .i64 0, .int .i64 0] (0, 0) _ rfl BKz.out Tryz.underlying44 rfl (by kernel_rfl)) rfl ?_
     exact ⟨_, _, _, _, rfl, Kd.R_nil _ _ _ _ _, Kd.R_nil _ _ _ _ _, Kd.R_nil _ _ _ _ _, Kd.R_nil _ _ _ _ _, Pst.bel⟩
    | true =>
     have AH4 : spec_ParseWorld.l0 k (P.drop (ii + 1)) (acc ++ [ld]) = some oL := AH3
     clear AH3
     obtain ⟨acc2, hy⟩ : ∃ y_ : List Int, y_ = acc ++ [ld] := ⟨_, rfl⟩
     rw [← hy] at AH4
     have AH := Pst.A AH4
     have HAC2 := Pst.A (show acc2.length ≤ ii + 1 from by have := HAC.out; rw [hy, List.length_append, List.length_singleton]; omega)
     have HY := Pst.A hy
     clear hy AH4
     go_wp2_with (first
      | (go_at_call 18; refine (spec_ParseMilli.calls k (rdOf ByteArray.empty P (ii : Int)) ld _ _ Am.out).mono ?_; rintro e w9 ⟨rfl, hb⟩; have HZ2 := Pst.A (Nat.le_trans HZ.out hb.size); have m0_ := Pst.A (below_step Pst.bel hb); have m1_ := Pst.A (Kept.below (by exact AK.out) hb); have m2_ := Pst.A (Pst.kb BK14.out hb); have m3_ := Pst.A (Kd.R_below (Pst.qr HL.out) hb); clear HB AK BK14 HL; have HB := m0_; have AK := m1_; have BK14 := m2_; have HL := m3_; clear m0_ m1_ m2_ m3_ hb; have hc12 : w9.cell? ⟨g14, 12, none⟩ = some v12 := (blk_cell BK14.out 12).trans rfl)
      | ((with_reducible refine gate_builtin (b := .append) (xs := #[.tmp 122, .tmp 124]) rfl ?_); at_builtin; refine Kd.R_append (Kd.int .i64) (w0 := w) w.heap.size rfl (.tmp 122) (.tmp 124) 42 3 (.int .i64 0) 8 rfl Tryz.underlying42 infoInt rfl (by decide) (by omega) v12 acc ld [.int .i64 ld] (fun k => w15.heap.size ≤ k) (fun _ => False) rfl rfl ?aP (fun _ hk => hk.elim) ?aF ?aO ?aB ?aS ?aL ?_; (case aP => exact rfl); (case aB => exact Pst.bel); (case aF => exact (fun _ h_ => Nat.le_trans HZ2.out h_)); (case aO => exact (Pst.qr HL.out)); (case aS => exact (below_size Pst.bel)); (case aL => have := HAC.out; have := HPM.out; omega); intro v13 w11 ho hb hg hat; rw [← HY.out] at ho; obtain ⟨A13, c13, e13⟩ := Kd.R_slice ho; subst e13; have HZ3 := Pst.A (Nat.le_trans HZ2.out hg.size); have hne : some g14 ≠ v12.ownBlock := fun e_ => (by have h1_ := HL.out.1 g14 e_.symm; have h2_ := GB.out; omega); have m0_ := Pst.A hb; have m1_ := Pst.A (Kept.of_grown hg (by exact AK.out) (fun q_ h_ => .inr (Nat.le_trans GS.out (HL.out.1 q_ h_)))); have m2_ := Pst.A (blk_grown BK14.out hg hne); have m3_ := Pst.A ho; clear HB AK BK14 HL ho hb hg hat hne; have HB := m0_; have AK := m1_; have BK14 := m2_; have HL := m3_; clear m0_ m1_ m2_ m3_; have hc13 : w11.cell? ⟨g14, 12, none⟩ = some v12 := (blk_cell BK14.out 12).trans rfl; have hf13 : w11.frozen? ⟨g14, 12, none⟩ = false := blk_frozen BK14.out 12))
     have q1_ := Pst.A (below_set (j := 12) (v := .slice A13 acc2.length c13) HB.out GW14.out)
     have q2_ := Pst.A (AK.out.setCell (p := ⟨g14, 12, none⟩) (.inr GE14.out) (.slice A13 acc2.length c13))
     have q3_ := Pst.A (blk_set BK14.out 12 (.slice A13 acc2.length c13))
     have q4_ := Pst.A (Kd.R_far (p := ⟨g14, 12, none⟩) HL.out (fun k_ h_ e_ => by have h1_ : k_ = g14 := e_; have h2_ := GB.out; omega) (.slice A13 acc2.length c13))
     have q5_ := Pst.A (show w15.heap.size ≤ (w11.setCell ⟨g14, 12, none⟩ (.slice A13 acc2.length c13)).heap.size by simpa [World.setCell] using HZ3.out)
     go_roundg (P.length - (ii + 1))
     case measure => omega
     case rel => exact ⟨ii + 1, acc2, .slice A13 acc2.length c13, by first | rfl | go_num, by omega, by omega, by omega, AH, HAC2, q1_, q2_, q3_, q4_, q5_⟩
   obtain rfl : ii = P.length := by omega
   have AH2 := AH.out
   rw [List.drop_length] at AH2
   obtain rfl : some acc = oL := by simpa [spec_ParseWorld.l0] using AH2
   have hlb : decide (P.length < P.length) = false := decide_eq_false (by omega)
   have hlb2 : decide ((P.length : Int) < (P.length : Int)) = false := decide_eq_false (by omega)
   clear AH AH2 hlt hii hgg hi5
   have H1 := H.out
   obtain ⟨okw, AW, H2⟩ := Option.bind_eq_some_iff.1 H1
   replace AW := Pst.A AW
   clear H H1
   obtain ⟨A12, c12, e12⟩ := Kd.R_slice HL.out
   subst e12
   cases okw with
   | false =>
    obtain ⟨rfl, rfl, rfl, rfl, rfl, rfl, rfl, rfl, rfl, rfl, rfl, rfl, rfl, rfl, rfl, rfl, rfl⟩ := noWorldIs (by simpa using H2)
    clear H2
    go_wp2_with (first
     | ((with_reducible refine gate_ (.load 44 (.tmp 14)) rfl ?_); (try (refine gate_guard (by rfl) ?_; dsimp only)); refine wpList_load_row rfl 44 (.tmp 14) rfl g14 rfl 44 _ _ _ (Pst.qb BK14.out) Tryz.underlying44 rfl (by kernel_rfl) ?_)
     | (go_at_call 19; refine (spec_WorldOk.calls k s1 s2 s3 A3 c3 s4 A4_ c4 s5 s6 s7 A7 c7 s8 s9 s10 s11 s12 A12 c12 acc wa st co _ _ (Kd.R_reads' (Kd.R_kept HO3.out (by exact AK.out) (fun _ _ h_ => h_))).2.2 (Kd.R_reads' (Kd.R_kept HO3.out (by exact AK.out) (fun _ _ h_ => h_))).2.1 (Kd.R_reads' (Kd.R_kept HO4.out (by exact AK.out) (fun _ _ h_ => h_))).2.2 (Kd.R_reads' (Kd.R_kept HO4.out (by exact AK.out) (fun _ _ h_ => h_))).2.1 (Kd.R_reads' (Kd.R_kept HO7.out (by exact AK.out) (fun _ _ h_ => h_))).2.2 (Kd.R_reads' (Kd.R_kept HO7.out (by exact AK.out) (fun _ _ h_ => h_))).2.1 (Pst.qc (Kd.R_reads' HL.out).2.2) (Kd.R_reads' HL.out).2.1 AW.out).mono ?_; rintro e w12 ⟨rfl, hb⟩; have m0_ := Pst.A (below_step Pst.bel hb); have m1_ := Pst.A (Kept.below (by exact AK.out) hb); have m2_ := Pst.A (Pst.kb BK14.out hb); have m3_ := Pst.A (Kd.R_below (Pst.qr HL.out) hb); clear HB AK BK14 HL; have HB := m0_; have AK := m1_; have BK14 := m2_; have HL := m3_; clear m0_ m1_ m2_ m3_ hb)
     | ((with_reducible refine gate_ (.load 44 (.tmp 6)) rfl ?_); (try (refine gate_guard (by rfl) ?_; dsimp only)); refine wpList_load_row rfl 44 (.tmp 6) rfl g6 rfl 44 _ _ _ (blk_kept BK6.out AK.out (fun h_ => h_)) Tryz.underlying44 rfl (by kernel_rfl) ?_)
     | ((with_reducible refine gate_ (.store 44 (.tmp 4) (.tmp 130)) rfl ?_); refine storeAll rfl 44 (.tmp 4) (.tmp 130) rfl g4 #[.int .i64 0, .int .i64 0, .int .i64 0, .slice none 0 0, .slice none 0 0, .int .i64 0, .int .i64 0, .slice none 0 0, .int .i64 0, .int .i64 0, .int .i64 0, .int .i64 0, .slice none 0 0, .int .i64 0, .int .i64 0, .int .i64 0] rfl rfl 44 #[.int .i64 0, .int .i64 0, .int .i64 0, .slice none 0 0, .slice none 0 0, .int .i64 0, .int .i64 0, .slice none 0 0, .int .i64 0, .int .i64 0, .int .i64 0, .int .i64 0, .slice none 0 0, .int .i64 0, .int .i64 0, .int .i64 0] ?hb (by kernel_rfl) rfl (by simp [oneInt, oneSlice]) ?_; (case hb => exact (blk_kept BK4.out AK.out (fun h_ => h_))); intro ws hbs hgs; have n_ := Pst.A (pw_below_grown Pst.bel (some g4) (below_size Pst.bel) hgs (fun k_ hk_ => by cases hk_; exact GEg4.out)); clear HB; have HB := n_; clear n_; have BKz := Pst.A hbs; clear hbs hgs))
    refine bodyPost_ret (results_ct rfl _ _ g4 44 #[.int .i64 0, .int .i64 0, .int .i64 0, .slice none 0 0, .slice none 0 0, .int .i64 0, .int .i64 0, .slice none 0 0, .int .i64 0, .int .i64 0, .int .i64 0, .int .i64 0, .slice none 0 0, .int .i64 0, .int .i64 0, .int .i64 0] (0, 0) _ rfl BKz.out Tryz.underlying44 rfl (by kernel_rfl)) rfl ?_
    exact ⟨_, _, _, _, rfl, Kd.R_nil _ _ _ _ _, Kd.R_nil _ _ _ _ _, Kd.R_nil _ _ _ _ _, Kd.R_nil _ _ _ _ _, Pst.bel⟩
   | true =>
    have H3 : some (s1, s2, s3, s4, s5, s6, s7, s8, s9, s10, s11, s12, acc, wa, st, co, true) = some (r1, r2, r3, r4, r5, r6, r7, r8, r9, r10, r11, r12, r13, r14, r15, r16, r17) := H2
    clear H2
    simp only [Option.some.injEq, Prod.mk.injEq] at H3
    obtain ⟨rfl, rfl, rfl, rfl, rfl, rfl, rfl, rfl, rfl, rfl, rfl, rfl, rfl, rfl, rfl, rfl, rfl⟩ := H3
    go_wp2_with (first
     | ((with_reducible refine gate_ (.load 44 (.tmp 14)) rfl ?_); (try (refine gate_guard (by rfl) ?_; dsimp only)); refine wpList_load_row rfl 44 (.tmp 14) rfl g14 rfl 44 _ _ _ (Pst.qb BK14.out) Tryz.underlying44 rfl (by kernel_rfl) ?_)
     | (go_at_call 19; refine (spec_WorldOk.calls k s1 s2 s3 A3 c3 s4 A4_ c4 s5 s6 s7 A7 c7 s8 s9 s10 s11 s12 A12 c12 acc wa st co _ _ (Kd.R_reads' (Kd.R_kept HO3.out (by exact AK.out) (fun _ _ h_ => h_))).2.2 (Kd.R_reads' (Kd.R_kept HO3.out (by exact AK.out) (fun _ _ h_ => h_))).2.1 (Kd.R_reads' (Kd.R_kept HO4.out (by exact AK.out) (fun _ _ h_ => h_))).2.2 (Kd.R_reads' (Kd.R_kept HO4.out (by exact AK.out) (fun _ _ h_ => h_))).2.1 (Kd.R_reads' (Kd.R_kept HO7.out (by exact AK.out) (fun _ _ h_ => h_))).2.2 (Kd.R_reads' (Kd.R_kept HO7.out (by exact AK.out) (fun _ _ h_ => h_))).2.1 (Pst.qc (Kd.R_reads' HL.out).2.2) (Kd.R_reads' HL.out).2.1 AW.out).mono ?_; rintro e w12 ⟨rfl, hb⟩; have m0_ := Pst.A (below_step Pst.bel hb); have m1_ := Pst.A (Kept.below (by exact AK.out) hb); have m2_ := Pst.A (Pst.kb BK14.out hb); have m3_ := Pst.A (Kd.R_below (Pst.qr HL.out) hb); clear HB AK BK14 HL; have HB := m0_; have AK := m1_; have BK14 := m2_; have HL := m3_; clear m0_ m1_ m2_ m3_ hb)
     | ((with_reducible refine gate_ (.store 44 (.tmp 4) (.tmp 131)) rfl ?_); refine storeAll rfl 44 (.tmp 4) (.tmp 131) rfl g4 #[.int .i64 s1, .int .i64 s2, .int .i64 s3, .slice A3 s4.length c3, .slice A4_ s5.length c4, .int .i64 s6, .int .i64 s7, .slice A7 s8.length c7, .int .i64 s9, .int .i64 s10, .int .i64 s11, .int .i64 s12, .slice A12 acc.length c12, .int .i64 wa, .int .i64 st, .int .i64 co] rfl rfl 44 #[.int .i64 0, .int .i64 0, .int .i64 0, .slice none 0 0, .slice none 0 0, .int .i64 0, .int .i64 0, .slice none 0 0, .int .i64 0, .int .i64 0, .int .i64 0, .int .i64 0, .slice none 0 0, .int .i64 0, .int .i64 0, .int .i64 0] ?hb (by kernel_rfl) rfl (by simp [oneInt, oneSlice]) ?_; (case hb => exact (blk_kept BK4.out AK.out (fun h_ => h_))); intro ws hbs hgs; have n_ := Pst.A (pw_below_grown Pst.bel (some g4) (below_size Pst.bel) hgs (fun k_ hk_ => by cases hk_; exact GEg4.out)); clear HB; have HB := n_; clear n_; have BKz := Pst.A hbs; have KS := Pst.A (show Kept _ ws (fun k => k = g4) from ⟨hgs.size, fun i hi hn => hgs.block i hi (fun he => hn (Option.some.inj he))⟩); clear hbs hgs))
    refine bodyPost_ret (results_ct rfl _ _ g4 44 #[.int .i64 s1, .int .i64 s2, .int .i64 s3, .slice A3 s4.length c3, .slice A4_ s5.length c4, .int .i64 s6, .int .i64 s7, .slice A7 s8.length c7, .int .i64 s9, .int .i64 s10, .int .i64 s11, .int .i64 s12, .slice A12 acc.length c12, .int .i64 wa, .int .i64 st, .int .i64 co] (0, 0) _ rfl BKz.out Tryz.underlying44 rfl (by kernel_rfl)) rfl ?_
    have KF := Pst.A (show Kept w10 ws (fun k_ => k_ = g4) from (AK.out.mono (fun _ h_ => h_.elim)).then_ KS.out (fun _ h_ => Or.inl h_))
    refine ⟨_, _, _, _, rfl, ?_, ?_, ?_, ?_, Pst.bel⟩
    ·exact Kd.R_mono (Kd.R_kept (Kd.R_types HO3.out BK4.out (by decide)) KF.out (fun _ hk he => hk.2 he)) (fun _ hk => hk.1)
    ·exact Kd.R_mono (Kd.R_kept (Kd.R_types HO4.out BK4.out (by decide)) KF.out (fun _ hk he => hk.2 he)) (fun _ hk => hk.1)
    ·exact Kd.R_mono (Kd.R_kept (Kd.R_types HO7.out BK4.out (by decide)) KF.out (fun _ hk he => hk.2 he)) (fun _ hk => hk.1)
    exact Kd.R_mono (Kd.R_kept HL.out KS.out (fun k_ hk he => by have h1_ := blk_lt BK4.out; have h2_ := GS.out; have h3_ : w15.heap.size ≤ k_ := hk; have h4_ : k_ = g4 := he; omega)) (fun _ _ => trivial)
  have H1 := H.out
  rw [if_neg hall] at H1
  obtain ⟨rfl, rfl, rfl, rfl, rfl, rfl, rfl, rfl, rfl, rfl, rfl, rfl, rfl, rfl, rfl, rfl, rfl⟩ := noWorldIs H1
  clear H H1
  have hthree : bc = false ∨ (bc = true ∧ bw = false) ∨ (bc = true ∧ bw = true ∧ bs = false) := by
   cases bc <;> cases bw <;> cases bs <;> simp_all
  clear hall
  rcases hthree with rfl | ⟨rfl, rfl⟩ | ⟨rfl, rfl, rfl⟩
  all_goals
   go_wp2_with (first
    | ((with_reducible refine gate_ (.load 44 (.tmp 6)) rfl ?_); (try (refine gate_guard (by rfl) ?_; dsimp only)); refine wpList_load_row rfl 44 (.tmp 6) rfl g6 rfl 44 _ _ _ (Pst.qb BK6.out) Tryz.underlying44 rfl (by kernel_rfl) ?_)
    | ((with_reducible refine gate_ (.store 44 (.tmp 4) (.tmp 97)) rfl ?_); refine storeAll rfl 44 (.tmp 4) (.tmp 97) rfl g4 #[.int .i64 0, .int .i64 0, .int .i64 0, .slice none 0 0, .slice none 0 0, .int .i64 0, .int .i64 0, .slice none 0 0, .int .i64 0, .int .i64 0, .int .i64 0, .int .i64 0, .slice none 0 0, .int .i64 0, .int .i64 0, .int .i64 0] rfl rfl 44 #[.int .i64 0, .int .i64 0, .int .i64 0, .slice none 0 0, .slice none 0 0, .int .i64 0, .int .i64 0, .slice none 0 0, .int .i64 0, .int .i64 0, .int .i64 0, .int .i64 0, .slice none 0 0, .int .i64 0, .int .i64 0, .int .i64 0] ?hb (by kernel_rfl) rfl (by simp [oneInt, oneSlice]) ?_; (case hb => exact Pst.qb BK4.out); intro ws hbs hgs; have n_ := Pst.A (pw_below_grown Pst.bel (some g4) (below_size Pst.bel) hgs (fun k_ hk_ => by cases hk_; exact GEg4.out)); clear HB; have HB := n_; clear n_; have BKz := Pst.A hbs; clear hbs hgs))
   refine bodyPost_ret (results_ct rfl _ _ g4 44 #[.int .i64 0, .int .i64 0, .int .i64 0, .slice none 0 0, .slice none 0 0, .int .i64 0, .int .i64 0, .slice none 0 0, .int .i64 0, .int .i64 0, .int .i64 0, .int .i64 0, .slice none 0 0, .int .i64 0, .int .i64 0, .int .i64 0] (0, 0) _ rfl BKz.out Tryz.underlying44 rfl (by kernel_rfl)) rfl ?_
   exact ⟨_, _, _, _, rfl, Kd.R_nil _ _ _ _ _, Kd.R_nil _ _ _ _ _, Kd.R_nil _ _ _ _ _, Kd.R_nil _ _ _ _ _, Pst.bel⟩

end Go.Proofs.YtapckgibbhijeaaGreatDoor.PA
