/- FnWorldTexts answers true at every list of bytes. The one condition: the tables that strconv reads are laid (Tab). -/
import Derived.Test.YtidkiabehmdofaaGreatDoorDraws
import Derived.Test.YtidkiabehmdofaaGreatDoorTextsLaw
import Derived.Deep.RegionHeld3
namespace Go.Proofs.YtidkiabehmdofaaGreatDoor.PA
open Go.RowKit Go.Proofs.YtidkiabehmdofaaGreatDoorW.PrintWords Go.Proofs.YtidkiabehmdofaaGreatDoorW.PrintLast Go.Proofs.YtidkiabehmdofaaGreatDoorW.PrintMore Go.Proofs.YtidkiabehmdofaaGreatDoor.Aid
attribute [local go_sem] max2_int min2_int max_two min_two max_three min_three max_four min_four   -- for this text's walks alone
set_option linter.unusedVariables false
set_option linter.unusedSimpArgs false
def laws_FnWorldTexts.T10 : Bool × List (List Nat × List Nat) := (true, [([], []), ([], []), ([1], [1]), ([0, 2, 2], [0, 2]), ([3, 3, 0, 1, 2, 3], [3])])
def laws_FnWorldTexts.B10 : List Nat := [0, 0, 2, 7, 15]
theorem laws_FnWorldTexts.tab10 : rtab .any (opsOf Tryz.f3 10) = laws_FnWorldTexts.T10 := by kernel_rfl
theorem laws_FnWorldTexts.bits10 : waitsOk laws_FnWorldTexts.T10.2 laws_FnWorldTexts.B10 = true := by kernel_rfl
def laws_FnWorldTexts.T11 : Bool × List (List Nat × List Nat) := (true, [([], []), ([0], [0]), ([1], [1]), ([2, 1, 1], [1, 2]), ([1], [1]), ([3, 4, 1], [1, 3, 4]), ([1, 5], [1, 5]), ([6, 3], [6]), ([7], [7]), ([7], [7]), ([7], [7]), ([10, 7, 7], [7, 10]), ([9, 11, 11, 7], [7, 9, 11]), ([8, 12, 7], [7, 8, 12]), ([7, 13], [7, 13]), ([14, 12], [14]), ([15], [15]), ([15], [15]), ([17, 15], [15, 17]), ([18, 15], [15, 18]), ([19, 15], [15, 19]), ([16, 20, 15], [15, 16, 20]), ([15, 21], [15, 21]), ([22, 15], [22]), ([23], [23]), ([23], [23]), ([25, 23], [23, 25]), ([26, 23], [23, 26]), ([27, 23], [23, 27]), ([24, 28, 23], [23, 24, 28]), ([29, 23, 23], [23, 29]), ([30], [30]), ([31, 30], [30, 31]), ([30, 32, 23], [23, 30, 32]), ([23, 33], [23, 33]), ([34, 30], [34]), ([35], [35]), ([35], [35]), ([37, 35, 35], [35, 37]), ([36, 38, 38, 35], [35, 36, 38]), ([35], [35]), ([35], [35]), ([41, 39, 35], [35, 41]), ([40, 42, 42, 35], [35, 40, 42]), ([39, 43, 35], [35, 39, 43]), ([35, 44], [35, 44]), ([45, 43, 0, 1, 2, 3, 4, 5, 6, 7, 8, 9, 10, 11, 12, 13, 14, 15, 16, 17, 18, 19, 20, 21, 22, 23, 24, 25, 26, 27, 28, 29, 30, 31, 32, 33, 34, 35, 36, 37, 38, 39, 40, 41, 42, 43, 44, 45], [45])])
def laws_FnWorldTexts.B11 : List Nat := [0, 1, 3, 7, 3, 31, 63, 127, 255, 255, 255, 1279, 3839, 8191, 16383, 32767, 65535, 65535, 196607, 458751, 983039, 2097151, 4194303, 8388607, 16777215, 16777215, 50331647, 117440511, 251658239, 536870911, 1073741823, 2147483647, 4294967295, 8589934591, 17179869183, 34359738367, 68719476735, 68719476735, 206158430207, 549755813887, 68719476735, 68719476735, 3298534883327, 8796093022207, 17592186044415, 35184372088831, 70368744177663]
theorem laws_FnWorldTexts.tab11 : rtab .any (opsOf Tryz.f3 11) = laws_FnWorldTexts.T11 := by kernel_rfl
theorem laws_FnWorldTexts.bits11 : waitsOk laws_FnWorldTexts.T11.2 laws_FnWorldTexts.B11 = true := by kernel_rfl

def laws_FnWorldTexts.f (k : Nat) (l0 : List Int) : Option Bool := some true
theorem plainWorldTexts (l0 : List Int) : Ev (fun k => laws_FnWorldTexts.f k l0) true := Ev.now true
theorem atSome (l0 : List Int) : ∃ t, laws_at.f l0 0 = some t ∧ t ≤ 9223372036854775807 := by
  unfold laws_at.f
  by_cases h : (0 : Int) < (l0.length : Int)
  · rw [if_pos h, if_pos (Int.le_refl _)]
    exact ⟨_, rfl, by unfold wrap64; omega⟩
  · rw [if_neg h]
    exact ⟨_, rfl, by have := Int.tmod_lt_of_pos (wrap64 ((wrap64 (0 * 13)) + (wrap64 ((l0.length : Int) * 5)))) (b := 256) (by decide); omega⟩
set_option maxHeartbeats 8000000 in
set_option maxRecDepth 100000 in
theorem laws_FnWorldTexts.calls (k : Nat) (A0 : Option Addr) (c0 : Nat) (l0 : List Int) (r : Bool) (w : World) (hr0 : Kd.C (Kd.int .u8) w A0 l0.length l0) (hc0 : l0.length ≤ c0) (h : laws_FnWorldTexts.f k l0 = some r) (tab_ : Tab w := by exact HT.out.on Pst.bel) :
    Calls Tryz.prog 3 #[.slice A0 l0.length c0] w fun e w' => e = .returned (.bool r) ∧ Below w.heap.size w w' := by
  have HT := Aside0.mk tab_
  clear tab_
  obtain rfl := Option.some.inj h
  clear h
  have hu36 := Tryz.underlying36
  have hu33 := Tryz.underlying33
  have HR0 := Aside0.mk hr0
  have HC0 := Aside0.mk hc0
  clear hr0 hc0
  have HB := Aside0.mk (Below.refl w.heap.size w)
  by_cases hbig : 1048576 < l0.length
  · have HBG := Aside0.mk (show laws_big.f l0 = some true from by unfold laws_big.f; rw [decide_eq_true (show (l0.length : Int) > 1048576 by omega)])
    clear hbig
    go_enter Tryz.func3, Tryz.ntmps3
    go_wp2_with (first
      | (go_at_call 4; refine (laws_big.calls A0 c0 l0 true _ (Kd.C_below HR0.out Pst.bel) HC0.out HBG.out).mono ?_; rintro e wb ⟨rfl, ⟨nd, rfl⟩⟩; have m0_ := Aside0.mk (pw_below_drewN Pst.bel nd); clear HB; have HB := m0_; clear m0_))
    go_ret
    exact ⟨rfl, Pst.bel⟩
  · have HBG := Aside0.mk (show laws_big.f l0 = some false from by unfold laws_big.f; rw [decide_eq_false (show ¬ (l0.length : Int) > 1048576 by omega)])
    have HL0 := Aside0.mk (show l0.length ≤ 1048576 by omega)
    clear hbig
    go_enter Tryz.func3, Tryz.ntmps3
    go_upto_region 4 with (first
      | (go_at_call 4; refine (laws_big.calls A0 c0 l0 false _ (Kd.C_below HR0.out Pst.bel) HC0.out HBG.out).mono ?_; rintro e wb ⟨rfl, ⟨nd, rfl⟩⟩; have m0_ := Aside0.mk (pw_below_drewN Pst.bel nd); clear HB; have HB := m0_; clear m0_)
      | (go_at_call 5; refine (spec_DrawWorldText.draws A0 c0 l0 _ (Kd.C_below HR0.out Pst.bel) HC0.out HL0.out).mono ?_; rintro e wd ⟨s1, s2, s3, s4, s5, s6, s7, s8, s9, s10, s11, s12, s13, s14, s15, s16, v3, v4, v7, v12, rfl, hs, hr3, hr4, hr7, hr12, hb⟩; have m0_ := Aside0.mk (below_step Pst.bel hb); clear HB; have HB := m0_; clear m0_; obtain ⟨A3, Ac3, e3⟩ := Kd.R_slice hr3; obtain ⟨A4, Ac4, e4⟩ := Kd.R_slice hr4; obtain ⟨A7, Ac7, e7⟩ := Kd.R_slice hr7; obtain ⟨A12, Ac12, e12⟩ := Kd.R_slice hr12; subst e3 e4 e7 e12; have HS := Aside0.mk hs; have HQ3 := Aside0.mk hr3; have HQ4 := Aside0.mk hr4; have HQ7 := Aside0.mk hr7; have HQ12 := Aside0.mk hr12; clear hs hr3 hr4 hr7 hr12 hb)
      | ((with_reducible refine gate_dst (N := 3) rfl ?_); refine box_event ?hg (N := 3) ?hd (cs := #[.int .i64 0, .int .i64 0, .int .i64 0, .slice none 0 0, .slice none 0 0, .int .i64 0, .int .i64 0, .slice none 0 0, .int .i64 0, .int .i64 0, .int .i64 0, .int .i64 0, .slice none 0 0, .int .i64 0, .int .i64 0, .int .i64 0]) (t := 36) ?hr ?_; (case hd => rfl); (case hg => rfl); (case hr => first | (go_simp; done) | (go_simp; rfl)); intro g3 hg wa hbox hb; have GE3 := Aside0.mk (show w.heap.size ≤ g3 by rw [hg]; exact below_size Pst.bel); have BK3 := Aside0.mk hbox; have m0_ := Aside0.mk (below_step Pst.bel hb); have m1_ := Aside0.mk (Kd.R_below (Pst.qr HQ3.out) hb); have m2_ := Aside0.mk (Kd.R_below (Pst.qr HQ4.out) hb); have m3_ := Aside0.mk (Kd.R_below (Pst.qr HQ7.out) hb); have m4_ := Aside0.mk (Kd.R_below (Pst.qr HQ12.out) hb); clear HB HQ3 HQ4 HQ7 HQ12; have HB := m0_; have HQ3 := m1_; have HQ4 := m2_; have HQ7 := m3_; have HQ12 := m4_; clear m0_ m1_ m2_ m3_ m4_; clear hb hbox hg)
      | ((with_reducible refine gate_ (.store 36 (.tmp 3) (.tmp 11)) rfl ?_); refine storeAll rfl 36 (.tmp 3) (.tmp 11) rfl g3 #[.int .i64 s1, .int .i64 s2, .int .i64 s3, .slice A3 s4.length Ac3, .slice A4 s5.length Ac4, .int .i64 s6, .int .i64 s7, .slice A7 s8.length Ac7, .int .i64 s9, .int .i64 s10, .int .i64 s11, .int .i64 s12, .slice A12 s13.length Ac12, .int .i64 s14, .int .i64 s15, .int .i64 s16] rfl rfl 36 #[.int .i64 0, .int .i64 0, .int .i64 0, .slice none 0 0, .slice none 0 0, .int .i64 0, .int .i64 0, .slice none 0 0, .int .i64 0, .int .i64 0, .int .i64 0, .int .i64 0, .slice none 0 0, .int .i64 0, .int .i64 0, .int .i64 0] ?hb (by kernel_rfl) rfl (by simp [oneInt, oneSlice]) ?_; (case hb => exact Pst.qb BK3.out); intro ws hbs hgs; have HW := Aside0.mk (pw_below_grown Pst.bel (some g3) (below_size Pst.bel) hgs (fun k_ hk_ => by cases hk_; exact GE3.out)); have HRA3 := Aside0.mk (Kd.R_reads' (Kd.R_kept (Kd.R_types (Pst.qr HQ3.out) (Pst.qb BK3.out) (by decide)) (S := fun k => k = g3) ⟨hgs.size, fun i hi hn => hgs.block i hi (fun he => hn (Option.some.inj he))⟩ (fun _ hk => hk.2))).2.2; have HCA3 := Aside0.mk (Kd.R_reads' HQ3.out).2.1; have HRA4 := Aside0.mk (Kd.R_reads' (Kd.R_kept (Kd.R_types (Pst.qr HQ4.out) (Pst.qb BK3.out) (by decide)) (S := fun k => k = g3) ⟨hgs.size, fun i hi hn => hgs.block i hi (fun he => hn (Option.some.inj he))⟩ (fun _ hk => hk.2))).2.2; have HCA4 := Aside0.mk (Kd.R_reads' HQ4.out).2.1; have HRA7 := Aside0.mk (Kd.R_reads' (Kd.R_kept (Kd.R_types (Pst.qr HQ7.out) (Pst.qb BK3.out) (by decide)) (S := fun k => k = g3) ⟨hgs.size, fun i hi hn => hgs.block i hi (fun he => hn (Option.some.inj he))⟩ (fun _ hk => hk.2))).2.2; have HCA7 := Aside0.mk (Kd.R_reads' HQ7.out).2.1; have HRA12 := Aside0.mk (Kd.R_reads' (Kd.R_kept (Kd.R_types (Pst.qr HQ12.out) (Pst.qb BK3.out) (by decide)) (S := fun k => k = g3) ⟨hgs.size, fun i hi hn => hgs.block i hi (fun he => hn (Option.some.inj he))⟩ (fun _ hk => hk.2))).2.2; have HCA12 := Aside0.mk (Kd.R_reads' HQ12.out).2.1; clear HB BK3 HQ3 HQ4 HQ7 HQ12; have BK3 := Aside0.mk hbs; have HB := Aside0.mk (Below.refl ws.heap.size ws); clear hbs hgs))
    obtain ⟨t, HAT, ht⟩ := atSome l0
    replace HAT := Aside0.mk HAT
    have hs := HS.out
    obtain ⟨kk, good, T, h1, h2, h3, h4, h5⟩ := textsLaw s1 s2 s3 s4 s5 s6 s7 s8 s9 s10 s11 s12 s13 s14 s15 s16 t (fun x hx => by have := hs.2.1 x hx; omega) (by omega) (by omega) (by omega) (by omega) ht
    have HT1 := Aside0.mk h1
    have HT2 := Aside0.mk h2
    have HsO := Aside0.mk h3
    have HTs := Aside0.mk (HT.out.on HW.out)
    clear h1 h2 h3 hs ht
    have hne : (T.toList != T.toList) = false := by simp
    cases good with
    | false =>
      have heq : T.toList.isEmpty = true := h4
      clear h4 h5
      go_wp2_with (first
        | ((with_reducible refine gate_ (.load 36 (.tmp 3)) rfl ?_); (try (refine gate_guard (by rfl) ?_; dsimp only)); refine wpList_load_row rfl 36 (.tmp 3) rfl g3 rfl 36 _ _ _ (blk_below BK3.out Pst.bel) Tryz.underlying36 rfl (by kernel_rfl) ?_)
        | (go_at_call 6; refine (impl_WorldText.calls kk s1 s2 s3 A3 Ac3 s4 A4 Ac4 s5 s6 s7 A7 Ac7 s8 s9 s10 s11 s12 A12 Ac12 s13 s14 s15 s16 T _ (Kd.C_below HRA3.out Pst.bel) HCA3.out (Kd.C_below HRA4.out Pst.bel) HCA4.out (Kd.C_below HRA7.out Pst.bel) HCA7.out (Kd.C_below HRA12.out Pst.bel) HCA12.out HT1.out (HTs.out.on Pst.bel)).mono ?_; rintro e wt ⟨rfl, hb⟩; have m0_ := Aside0.mk (below_step Pst.bel hb); clear HB; have HB := m0_; clear m0_; clear hb)
        | (go_at_call 7; refine (spec_WorldText.calls kk s1 s2 s3 A3 Ac3 s4 A4 Ac4 s5 s6 s7 A7 Ac7 s8 s9 s10 s11 s12 A12 Ac12 s13 s14 s15 s16 T _ (Kd.C_below HRA3.out Pst.bel) HCA3.out (Kd.C_below HRA4.out Pst.bel) HCA4.out (Kd.C_below HRA7.out Pst.bel) HCA7.out (Kd.C_below HRA12.out Pst.bel) HCA12.out HT2.out).mono ?_; rintro e wt ⟨rfl, hb⟩; have m0_ := Aside0.mk (below_step Pst.bel hb); clear HB; have HB := m0_; clear m0_; clear hb)
        | (go_at_call 8; refine (spec_WorldOk.calls kk s1 s2 s3 A3 Ac3 s4 A4 Ac4 s5 s6 s7 A7 Ac7 s8 s9 s10 s11 s12 A12 Ac12 s13 s14 s15 s16 false _ (Kd.C_below HRA3.out Pst.bel) HCA3.out (Kd.C_below HRA4.out Pst.bel) HCA4.out (Kd.C_below HRA7.out Pst.bel) HCA7.out (Kd.C_below HRA12.out Pst.bel) HCA12.out HsO.out).mono ?_; rintro e wt ⟨rfl, hb⟩; have m0_ := Aside0.mk (below_step Pst.bel hb); clear HB; have HB := m0_; clear m0_; clear hb))
      go_ret
      exact ⟨rfl, below_step HW.out Pst.bel⟩
    | true =>
      have heq : T.toList.isEmpty = false := h4
      obtain ⟨h6, r, q, h7, h8, hrr, h9, h10⟩ := h5 rfl
      have HP := Aside0.mk h6
      have HI1 := Aside0.mk h7
      have HI2 := Aside0.mk h8
      have HQ1 := Aside0.mk h9
      have HQ2 := Aside0.mk h10
      have HRR := Aside0.mk hrr
      clear h4 h5 h6 h7 h8 h9 h10 hrr
      go_upto_region 9 with (first
        | ((with_reducible refine gate_ (.load 36 (.tmp 3)) rfl ?_); (try (refine gate_guard (by rfl) ?_; dsimp only)); refine wpList_load_row rfl 36 (.tmp 3) rfl g3 rfl 36 _ _ _ (blk_below BK3.out Pst.bel) Tryz.underlying36 rfl (by kernel_rfl) ?_)
        | (go_at_call 6; refine (impl_WorldText.calls kk s1 s2 s3 A3 Ac3 s4 A4 Ac4 s5 s6 s7 A7 Ac7 s8 s9 s10 s11 s12 A12 Ac12 s13 s14 s15 s16 T _ (Kd.C_below HRA3.out Pst.bel) HCA3.out (Kd.C_below HRA4.out Pst.bel) HCA4.out (Kd.C_below HRA7.out Pst.bel) HCA7.out (Kd.C_below HRA12.out Pst.bel) HCA12.out HT1.out (HTs.out.on Pst.bel)).mono ?_; rintro e wt ⟨rfl, hb⟩; have m0_ := Aside0.mk (below_step Pst.bel hb); clear HB; have HB := m0_; clear m0_; clear hb)
        | (go_at_call 7; refine (spec_WorldText.calls kk s1 s2 s3 A3 Ac3 s4 A4 Ac4 s5 s6 s7 A7 Ac7 s8 s9 s10 s11 s12 A12 Ac12 s13 s14 s15 s16 T _ (Kd.C_below HRA3.out Pst.bel) HCA3.out (Kd.C_below HRA4.out Pst.bel) HCA4.out (Kd.C_below HRA7.out Pst.bel) HCA7.out (Kd.C_below HRA12.out Pst.bel) HCA12.out HT2.out).mono ?_; rintro e wt ⟨rfl, hb⟩; have m0_ := Aside0.mk (below_step Pst.bel hb); clear HB; have HB := m0_; clear m0_; clear hb))
      have BK3b := Aside0.mk (blk_below BK3.out HB.out)
      obtain ⟨hd0, hd1, hd2, hd3, hd4, hd5, hd6, hd7, hd8, hd9, hd10, hd11, hd12, hd13, hd14, hd15⟩ := Pst.c16 BK3b.out
      go_upto_region 10 with (first
        | (go_at_call 9; refine (impl_ParseWorld.calls kk T s1 s2 s3 A3 Ac3 s4 A4 Ac4 s5 s6 s7 A7 Ac7 s8 s9 s10 s11 s12 s1 s2 s3 s4 s5 s6 s7 s8 s9 s10 s11 s12 s13 s14 s15 s16 true _ (Kd.C_below HRA3.out Pst.bel) HCA3.out (Kd.C_below HRA4.out Pst.bel) HCA4.out (Kd.C_below HRA7.out Pst.bel) HCA7.out HP.out (HTs.out.on Pst.bel)).mono ?_; rintro e wp ⟨v3, v4, v7, v12, rfl, hr3, hr4, hr7, hr12, hb⟩; have m0_ := Aside0.mk (below_step Pst.bel hb); clear HB; have HB := m0_; clear m0_; obtain ⟨B3, Bc3, e3⟩ := Kd.R_slice hr3; obtain ⟨B4, Bc4, e4⟩ := Kd.R_slice hr4; obtain ⟨B7, Bc7, e7⟩ := Kd.R_slice hr7; obtain ⟨B12, Bc12, e12⟩ := Kd.R_slice hr12; subst e3 e4 e7 e12; have HP3 := Aside0.mk (Kd.R_mono hr3 (ok' := fun _ => True) (fun _ _ => trivial)); have HP4 := Aside0.mk (Kd.R_mono hr4 (ok' := fun _ => True) (fun _ _ => trivial)); have HP7 := Aside0.mk (Kd.R_mono hr7 (ok' := fun _ => True) (fun _ _ => trivial)); have HP12 := Aside0.mk hr12; clear hr3 hr4 hr7 hr12 hb)
        | ((with_reducible refine gate_dst (N := 5) rfl ?_); refine box_event ?hg (N := 5) ?hd (cs := #[.int .i64 0, .int .i64 0, .int .i64 0, .slice none 0 0, .slice none 0 0, .int .i64 0, .int .i64 0, .slice none 0 0, .int .i64 0, .int .i64 0, .int .i64 0, .int .i64 0, .slice none 0 0, .int .i64 0, .int .i64 0, .int .i64 0]) (t := 36) ?hr ?_; (case hd => rfl); (case hg => rfl); (case hr => first | (go_simp; done) | (go_simp; rfl)); intro g5 hg wa5 hbox hb; have GE5 := Aside0.mk (show ws.heap.size ≤ g5 by rw [hg]; exact below_size Pst.bel); have BK5 := Aside0.mk hbox; have m0_ := Aside0.mk (below_step Pst.bel hb); have m1_ := Aside0.mk (Kd.R_below (Pst.qr HP3.out) hb); have m2_ := Aside0.mk (Kd.R_below (Pst.qr HP4.out) hb); have m3_ := Aside0.mk (Kd.R_below (Pst.qr HP7.out) hb); have m4_ := Aside0.mk (Kd.R_below (Pst.qr HP12.out) hb); clear HB HP3 HP4 HP7 HP12; have HB := m0_; have HP3 := m1_; have HP4 := m2_; have HP7 := m3_; have HP12 := m4_; clear m0_ m1_ m2_ m3_ m4_; clear hb hbox hg)
        | ((with_reducible refine gate_ (.store 36 (.tmp 5) (.tmp 28)) rfl ?_); refine storeAll rfl 36 (.tmp 5) (.tmp 28) rfl g5 #[.int .i64 s1, .int .i64 s2, .int .i64 s3, .slice B3 s4.length Bc3, .slice B4 s5.length Bc4, .int .i64 s6, .int .i64 s7, .slice B7 s8.length Bc7, .int .i64 s9, .int .i64 s10, .int .i64 s11, .int .i64 s12, .slice B12 s13.length Bc12, .int .i64 s14, .int .i64 s15, .int .i64 s16] rfl rfl 36 #[.int .i64 0, .int .i64 0, .int .i64 0, .slice none 0 0, .slice none 0 0, .int .i64 0, .int .i64 0, .slice none 0 0, .int .i64 0, .int .i64 0, .int .i64 0, .int .i64 0, .slice none 0 0, .int .i64 0, .int .i64 0, .int .i64 0] ?hb (by kernel_rfl) rfl (by simp [oneInt, oneSlice]) ?_; (case hb => exact Pst.qb BK5.out); intro wt5 hbs hgs; have HW5 := Aside0.mk (pw_below_grown Pst.bel (some g5) (below_size Pst.bel) hgs (fun k_ hk_ => by cases hk_; exact GE5.out)); have HRB3 := Aside0.mk (Kd.R_reads' (Kd.R_kept (Kd.R_types (Pst.qr HP3.out) (Pst.qb BK5.out) (by decide)) (S := fun k => k = g5) ⟨hgs.size, fun i hi hn => hgs.block i hi (fun he => hn (Option.some.inj he))⟩ (fun _ hk => hk.2))).2.2; have HCB3 := Aside0.mk (Kd.R_reads' HP3.out).2.1; have HRB4 := Aside0.mk (Kd.R_reads' (Kd.R_kept (Kd.R_types (Pst.qr HP4.out) (Pst.qb BK5.out) (by decide)) (S := fun k => k = g5) ⟨hgs.size, fun i hi hn => hgs.block i hi (fun he => hn (Option.some.inj he))⟩ (fun _ hk => hk.2))).2.2; have HCB4 := Aside0.mk (Kd.R_reads' HP4.out).2.1; have HRB7 := Aside0.mk (Kd.R_reads' (Kd.R_kept (Kd.R_types (Pst.qr HP7.out) (Pst.qb BK5.out) (by decide)) (S := fun k => k = g5) ⟨hgs.size, fun i hi hn => hgs.block i hi (fun he => hn (Option.some.inj he))⟩ (fun _ hk => hk.2))).2.2; have HCB7 := Aside0.mk (Kd.R_reads' HP7.out).2.1; have HRB12 := Aside0.mk (Kd.R_reads' (Kd.R_kept (Kd.R_types (Pst.qr HP12.out) (Pst.qb BK5.out) (by decide)) (S := fun k => k = g5) ⟨hgs.size, fun i hi hn => hgs.block i hi (fun he => hn (Option.some.inj he))⟩ (fun _ hk => hk.2))).2.2; have HCB12 := Aside0.mk (Kd.R_reads' HP12.out).2.1; clear HB BK5 HP3 HP4 HP7 HP12; have BK5 := Aside0.mk hbs; have HB := Aside0.mk (Below.refl wt5.heap.size wt5); clear hbs hgs))
      clear hd0 hd1 hd2 hd3 hd4 hd5 hd6 hd7 hd8 hd9 hd10 hd11 hd12 hd13 hd14 hd15 BK3b hne heq
      refine start_ (n := 5) (S := fun w' => True) (ds := []) #[false, false, false, false, false] (by kernel_rfl) rfl rfl trivial (fun hHeld => ?_)
      refine with_tabW laws_FnWorldTexts.tab10 laws_FnWorldTexts.bits10 (fun HT_ HW_ => ?_)
      have HBo := HB
      clear HB
      have HB : Aside0 (Below wt5.heap.size wt5 wt5.drew) := Aside0.mk (below_drew1 (by exact HBo.out))
      clear HBo
      refine pure_ (i := 1) (N := some 31) (v := ?_) (a' := ?_) #[false, true, false, false, false] rfl rfl (any_of HT_.out (by kernel_rfl)) (fun _ _ _ h => h) (Or.inl ⟨by rfl, ?_⟩) ?_ ?_
      rotate_left
      · intro w'
        go_simp
        with_reducible rfl
      rotate_left
      · simp only [Act.put, List.setIfInBounds_toArray, List.set_cons_zero, List.set_cons_succ, i64_w, i32_w]
        rfl
      refine inv_at [0, 2, 3, 4] (fun a0_ b a w' => a = putSel a0_ b [(0, 30, .agg #[.int .i64 s1, .int .i64 s2, .int .i64 s3, .slice A3 s4.length Ac3, .slice A4 s5.length Ac4, .int .i64 s6, .int .i64 s7, .slice A7 s8.length Ac7, .int .i64 s9, .int .i64 s10, .int .i64 s11, .int .i64 s12, .slice A12 s13.length Ac12, .int .i64 s14, .int .i64 s15, .int .i64 s16]), (2, 32, .int .i64 t), (3, 33, .int .i64 r), (4, 7, .int .i64 r)] ∧ (Below wt5.heap.size wt5 w')) HT_.out HW_.out (by kernel_rfl) (by kernel_rfl) ?_ ?_ ?_
      · exact ⟨by simp only [putSel, Bool.false_eq_true, if_false], HB.out⟩
      · skip
        clear HB
        refine steps_cons ?_ ?_
        · rintro b a w' ⟨ha, Q_HB⟩ hb_ hon hoff
          refine ⟨_, rfl, fun K hK => ?_⟩
          have e3 : a.tmps[3]? = some (.pointer (some ⟨g3, 0, none⟩)) := by rw [ha]; exact (putSel_off rfl).trans rfl
          replace ha := Aside0.mk ha
          have HB := Aside0.mk Q_HB
          refine value_ (w1 := w') (v := .agg #[.int .i64 s1, .int .i64 s2, .int .i64 s3, .slice A3 s4.length Ac3, .slice A4 s5.length Ac4, .int .i64 s6, .int .i64 s7, .slice A7 s8.length Ac7, .int .i64 s9, .int .i64 s10, .int .i64 s11, .int .i64 s12, .slice A12 s13.length Ac12, .int .i64 s14, .int .i64 s15, .int .i64 s16]) (by rfl) rfl (loadAll 36 (.tmp 3) rfl g3 (by simp only [Act.eval, Array.getD_eq_getD_getElem?, e3, Option.getD_some]) 36 _ _ (blk_below BK3.out (below_step HW5.out HB.out)) Tryz.underlying36 rfl (by kernel_rfl)) ?_
          refine hK.out _ _ ⟨(by rw [ha.out]; exact putSel_upk 0 hb_ rfl rfl rfl), HB.out⟩
        refine steps_cons ?_ ?_
        · rintro b a w' ⟨ha, Q_HB⟩ hb_ hon hoff
          refine ⟨_, rfl, fun K hK => ?_⟩
          have e31 : a.tmps[31]? = some (.slice A0 l0.length c0) := by rw [ha]; exact (putSel_off rfl).trans rfl
          replace ha := Aside0.mk ha
          have HB := Aside0.mk Q_HB
          refine goes_ Tryz.func11 (by kernel_rfl) rfl #[.slice A0 l0.length c0, .int .i64 0] (by rfl) rfl rfl (by first | (simp only [List.map_toArray, List.map_cons, List.map_nil, Act.eval, Array.getD_eq_getD_getElem?, Option.getD_some, e31]; done) | (simp only [List.map_toArray, List.map_cons, List.map_nil, Act.eval, Array.getD_eq_getD_getElem?, Option.getD_some, e31]; rfl)) ?_
          refine (laws_at.calls A0 c0 l0 0 t _ (Kd.C_below HR0.out (below_step HW.out (below_step HW5.out HB.out))) HC0.out HAT.out).mono ?_
          rintro e w2 ⟨rfl, ⟨nd, rfl⟩⟩
          refine ⟨_, rfl, ?_⟩
          refine hK.out _ _ ⟨(by rw [ha.out]; exact putSel_upk 1 hb_ rfl rfl rfl), pw_below_drewN HB.out nd⟩
        refine steps_cons ?_ ?_
        · rintro b a w' ⟨ha, Q_HB⟩ hb_ hon hoff
          refine ⟨_, rfl, fun K hK => ?_⟩
          have e30 : a.tmps[30]? = some (.agg #[.int .i64 s1, .int .i64 s2, .int .i64 s3, .slice A3 s4.length Ac3, .slice A4 s5.length Ac4, .int .i64 s6, .int .i64 s7, .slice A7 s8.length Ac7, .int .i64 s9, .int .i64 s10, .int .i64 s11, .int .i64 s12, .slice A12 s13.length Ac12, .int .i64 s14, .int .i64 s15, .int .i64 s16]) := by rw [ha]; exact putSel_on (e := (0, 30, .agg #[.int .i64 s1, .int .i64 s2, .int .i64 s3, .slice A3 s4.length Ac3, .slice A4 s5.length Ac4, .int .i64 s6, .int .i64 s7, .slice A7 s8.length Ac7, .int .i64 s9, .int .i64 s10, .int .i64 s11, .int .i64 s12, .slice A12 s13.length Ac12, .int .i64 s14, .int .i64 s15, .int .i64 s16])) 0 rfl rfl (hon 0 (by kernel_rfl)) rfl
          have e32 : a.tmps[32]? = some (.int .i64 t) := by rw [ha]; exact putSel_on (e := (2, 32, .int .i64 t)) 1 rfl rfl (hon 2 (by kernel_rfl)) rfl
          replace ha := Aside0.mk ha
          have HB := Aside0.mk Q_HB
          refine goes_ Tryz.func10 (by kernel_rfl) rfl #[.agg #[.int .i64 s1, .int .i64 s2, .int .i64 s3, .slice A3 s4.length Ac3, .slice A4 s5.length Ac4, .int .i64 s6, .int .i64 s7, .slice A7 s8.length Ac7, .int .i64 s9, .int .i64 s10, .int .i64 s11, .int .i64 s12, .slice A12 s13.length Ac12, .int .i64 s14, .int .i64 s15, .int .i64 s16], .int .i64 t] (by rfl) rfl rfl (by first | (simp only [List.map_toArray, List.map_cons, List.map_nil, Act.eval, Array.getD_eq_getD_getElem?, Option.getD_some, e30, e32]; done) | (simp only [List.map_toArray, List.map_cons, List.map_nil, Act.eval, Array.getD_eq_getD_getElem?, Option.getD_some, e30, e32]; rfl)) ?_
          refine (impl_IdealAt.calls kk s1 s2 s3 A3 Ac3 s4 A4 Ac4 s5 s6 s7 A7 Ac7 s8 s9 s10 s11 s12 A12 Ac12 s13 s14 s15 s16 t r _ (Kd.C_below HRA3.out (below_step HW5.out HB.out)) HCA3.out (Kd.C_below HRA4.out (below_step HW5.out HB.out)) HCA4.out (Kd.C_below HRA7.out (below_step HW5.out HB.out)) HCA7.out (Kd.C_below HRA12.out (below_step HW5.out HB.out)) HCA12.out HI1.out).mono ?_
          rintro e w2 ⟨rfl, hb⟩
          refine ⟨_, rfl, ?_⟩
          refine hK.out _ _ ⟨(by rw [ha.out]; exact putSel_upk 2 hb_ rfl rfl rfl), below_step HB.out hb⟩
        refine steps_cons ?_ ?_
        · rintro b a w' ⟨ha, Q_HB⟩ hb_ hon hoff
          refine ⟨_, rfl, fun K hK => ?_⟩
          have e33 : a.tmps[33]? = some (.int .i64 r) := by rw [ha]; exact putSel_on (e := (3, 33, .int .i64 r)) 2 rfl rfl (hon 3 (by kernel_rfl)) rfl
          replace ha := Aside0.mk ha
          have HB := Aside0.mk Q_HB
          refine value_ (w1 := w') (v := .int .i64 r) (by rfl) rfl ?_ ?_
          · go_simp
            (try simp only [i64_w])
            try rfl
          refine hK.out _ _ ⟨(by rw [ha.out]; exact putSel_upk 3 hb_ rfl rfl rfl), Q_HB⟩
        exact steps_nil
      rintro b a w10 hall ⟨ha, Q_HB⟩
      clear HB
      have hb0_ := hall 0 (by kernel_rfl)
      have hb2_ := hall 2 (by kernel_rfl)
      have hb3_ := hall 3 (by kernel_rfl)
      have hb4_ := hall 4 (by kernel_rfl)
      subst ha
      simp only [putSel, hb0_, hb2_, hb3_, hb4_, if_true, Act.put, List.setIfInBounds_toArray, List.set_cons_zero, List.set_cons_succ]
      have HB := Aside0.mk Q_HB
      clear Q_HB
      clear hall hb0_ hb2_ hb3_ hb4_
      clear hHeld HT_ HW_
      go_upto_region 11 with (fail)
      have hle : decide (r ≤ s12) = true := decide_eq_true HRR.out.1
      have hss : (T.toList == T.toList) = true := beq_self_eq_true _
      have hrs : (r == r) = true := beq_self_eq_true _
      have hqs : (q == q) = true := beq_self_eq_true _
      rcases Int.lt_or_le r s11 with hlt | hmin
      · have hge : decide (s11 ≤ r) = false := decide_eq_false (Int.not_le.2 hlt)
        have h12 : (r == 12) = true := by have := HRR.out.2; rw [beq_iff_eq]; omega
        clear hlt
        refine start_ (n := 47) (S := fun w' => True) (ds := []) #[false, false, false, false, false, false, false, false, false, false, false, false, false, false, false, false, false, false, false, false, false, false, false, false, false, false, false, false, false, false, false, false, false, false, false, false, false, false, false, false, false, false, false, false, false, false, false] (by kernel_rfl) rfl rfl trivial (fun hHeld => ?_)
        refine with_tabW laws_FnWorldTexts.tab11 laws_FnWorldTexts.bits11 (fun HT_ HW_ => ?_)
        have HBo := HB
        clear HB
        have HB : Aside0 (Below wt5.heap.size wt5 w10.drew) := Aside0.mk (below_drew1 (by exact HBo.out))
        clear HBo
        refine pure_ (i := 0) (N := some 34) (v := ?_) (a' := ?_) #[true, false, false, false, false, false, false, false, false, false, false, false, false, false, false, false, false, false, false, false, false, false, false, false, false, false, false, false, false, false, false, false, false, false, false, false, false, false, false, false, false, false, false, false, false, false, false] rfl rfl (any_of HT_.out (by kernel_rfl)) (fun _ _ _ h => h) (Or.inl ⟨by rfl, ?_⟩) ?_ ?_
        rotate_left
        · intro w'
          go_simp
          with_reducible rfl
        rotate_left
        · simp only [Act.put, List.setIfInBounds_toArray, List.set_cons_zero, List.set_cons_succ, i64_w, i32_w]
          rfl
        refine pure_ (i := 1) (N := some 35) (v := ?_) (a' := ?_) #[true, true, false, false, false, false, false, false, false, false, false, false, false, false, false, false, false, false, false, false, false, false, false, false, false, false, false, false, false, false, false, false, false, false, false, false, false, false, false, false, false, false, false, false, false, false, false] rfl rfl (any_of HT_.out (by kernel_rfl)) (fun _ _ _ h => h) (Or.inl ⟨by rfl, ?_⟩) ?_ ?_
        rotate_left
        · intro w'
          go_simp
          with_reducible rfl
        rotate_left
        · simp only [Act.put, List.setIfInBounds_toArray, List.set_cons_zero, List.set_cons_succ, i64_w, i32_w]
          rfl
        refine pure_ (i := 4) (N := some 38) (v := ?_) (a' := ?_) #[true, true, false, false, true, false, false, false, false, false, false, false, false, false, false, false, false, false, false, false, false, false, false, false, false, false, false, false, false, false, false, false, false, false, false, false, false, false, false, false, false, false, false, false, false, false, false] rfl rfl (any_of HT_.out (by kernel_rfl)) (fun _ _ _ h => h) (Or.inl ⟨by rfl, ?_⟩) ?_ ?_
        rotate_left
        · intro w'
          go_simp
          with_reducible rfl
        rotate_left
        · simp only [Act.put, List.setIfInBounds_toArray, List.set_cons_zero, List.set_cons_succ, i64_w, i32_w]
          rfl
        refine inv_at [2, 3, 5, 6, 7, 8, 9, 10, 11, 12, 13, 14, 15, 16, 17, 18, 19, 20, 21, 22, 23, 24, 25, 26, 27, 28, 29, 30, 31, 32, 33, 34, 35, 36, 37, 38, 39, 40, 41, 42, 43, 44, 45, 46] (fun a0_ b a w' => a = putSel a0_ b [(2, 36, .agg #[.int .i64 s1, .int .i64 s2, .int .i64 s3, .slice B3 s4.length Bc3, .slice B4 s5.length Bc4, .int .i64 s6, .int .i64 s7, .slice B7 s8.length Bc7, .int .i64 s9, .int .i64 s10, .int .i64 s11, .int .i64 s12, .slice B12 s13.length Bc12, .int .i64 s14, .int .i64 s15, .int .i64 s16]), (3, 37, .string T), (5, 39, .bool true), (6, 40, .bool true), (7, 41, .bool true), (8, 42, .int .i64 r), (9, 43, .agg #[.int .i64 s1, .int .i64 s2, .int .i64 s3, .slice A3 s4.length Ac3, .slice A4 s5.length Ac4, .int .i64 s6, .int .i64 s7, .slice A7 s8.length Ac7, .int .i64 s9, .int .i64 s10, .int .i64 s11, .int .i64 s12, .slice A12 s13.length Ac12, .int .i64 s14, .int .i64 s15, .int .i64 s16]), (10, 44, .slice A0 l0.length c0), (11, 45, .int .i64 t), (12, 46, .int .i64 r), (13, 47, .bool true), (14, 48, .bool true), (15, 49, .bool true), (16, 50, .int .i64 r), (17, 51, .pointer (some ⟨g3, 0, none⟩)), (18, 52, .pointer (some ⟨g3, 4, none⟩)), (19, 53, .pointer (some ⟨g3, 11, none⟩)), (20, 54, .int .i64 s12), (21, 55, .bool true), (22, 56, .bool true), (23, 57, .bool true), (24, 58, .int .i64 r), (25, 59, .pointer (some ⟨g3, 0, none⟩)), (26, 60, .pointer (some ⟨g3, 4, none⟩)), (27, 61, .pointer (some ⟨g3, 10, none⟩)), (28, 62, .int .i64 s11), (29, 63, .bool false), (30, 64, .bool false), (31, 65, .int .i64 r), (32, 66, .bool true), (33, 67, .bool true), (34, 68, .bool true), (35, 69, .bool true), (36, 70, .agg #[.int .i64 s1, .int .i64 s2, .int .i64 s3, .slice B3 s4.length Bc3, .slice B4 s5.length Bc4, .int .i64 s6, .int .i64 s7, .slice B7 s8.length Bc7, .int .i64 s9, .int .i64 s10, .int .i64 s11, .int .i64 s12, .slice B12 s13.length Bc12, .int .i64 s14, .int .i64 s15, .int .i64 s16]), (37, 71, .slice A0 l0.length c0), (38, 72, .int .i64 t), (39, 73, .int .i64 q), (40, 74, .agg #[.int .i64 s1, .int .i64 s2, .int .i64 s3, .slice A3 s4.length Ac3, .slice A4 s5.length Ac4, .int .i64 s6, .int .i64 s7, .slice A7 s8.length Ac7, .int .i64 s9, .int .i64 s10, .int .i64 s11, .int .i64 s12, .slice A12 s13.length Ac12, .int .i64 s14, .int .i64 s15, .int .i64 s16]), (41, 75, .slice A0 l0.length c0), (42, 76, .int .i64 t), (43, 77, .int .i64 q), (44, 78, .bool true), (45, 79, .bool true), (46, 2, .bool true)] ∧ (Below wt5.heap.size wt5 w')) HT_.out HW_.out (by kernel_rfl) (by kernel_rfl) ?_ ?_ ?_
        · exact ⟨by simp only [putSel, Bool.false_eq_true, if_false], HB.out⟩
        · skip
          clear HB
          refine steps_cons ?_ ?_
          · rintro b a w' ⟨ha, Q_HB⟩ hb_ hon hoff
            refine ⟨_, rfl, fun K hK => ?_⟩
            have e5 : a.tmps[5]? = some (.pointer (some ⟨g5, 0, none⟩)) := by rw [ha]; exact (putSel_off rfl).trans rfl
            have e35 : a.tmps[35]? = some (.bool true) := by rw [ha]; exact (putSel_off rfl).trans rfl
            replace ha := Aside0.mk ha
            have HB := Aside0.mk Q_HB
            refine value_ (w1 := w') (v := .agg #[.int .i64 s1, .int .i64 s2, .int .i64 s3, .slice B3 s4.length Bc3, .slice B4 s5.length Bc4, .int .i64 s6, .int .i64 s7, .slice B7 s8.length Bc7, .int .i64 s9, .int .i64 s10, .int .i64 s11, .int .i64 s12, .slice B12 s13.length Bc12, .int .i64 s14, .int .i64 s15, .int .i64 s16]) (wanted_on rfl rfl rfl (e35.trans (by first | rfl | (simp [*]; done)))) rfl (loadAll 36 (.tmp 5) rfl g5 (by simp only [Act.eval, Array.getD_eq_getD_getElem?, e5, Option.getD_some]) 36 _ _ (blk_below BK5.out HB.out) Tryz.underlying36 rfl (by kernel_rfl)) ?_
            refine hK.out _ _ ⟨(by rw [ha.out]; exact putSel_upk 0 hb_ rfl rfl rfl), HB.out⟩
          refine steps_cons ?_ ?_
          · rintro b a w' ⟨ha, Q_HB⟩ hb_ hon hoff
            refine ⟨_, rfl, fun K hK => ?_⟩
            have e36 : a.tmps[36]? = some (.agg #[.int .i64 s1, .int .i64 s2, .int .i64 s3, .slice B3 s4.length Bc3, .slice B4 s5.length Bc4, .int .i64 s6, .int .i64 s7, .slice B7 s8.length Bc7, .int .i64 s9, .int .i64 s10, .int .i64 s11, .int .i64 s12, .slice B12 s13.length Bc12, .int .i64 s14, .int .i64 s15, .int .i64 s16]) := by rw [ha]; exact putSel_on (e := (2, 36, .agg #[.int .i64 s1, .int .i64 s2, .int .i64 s3, .slice B3 s4.length Bc3, .slice B4 s5.length Bc4, .int .i64 s6, .int .i64 s7, .slice B7 s8.length Bc7, .int .i64 s9, .int .i64 s10, .int .i64 s11, .int .i64 s12, .slice B12 s13.length Bc12, .int .i64 s14, .int .i64 s15, .int .i64 s16])) 0 rfl rfl (hon 2 (by kernel_rfl)) rfl
            have e35 : a.tmps[35]? = some (.bool true) := by rw [ha]; exact (putSel_off rfl).trans rfl
            replace ha := Aside0.mk ha
            have HB := Aside0.mk Q_HB
            refine goes_ Tryz.func6 (by kernel_rfl) rfl #[.agg #[.int .i64 s1, .int .i64 s2, .int .i64 s3, .slice B3 s4.length Bc3, .slice B4 s5.length Bc4, .int .i64 s6, .int .i64 s7, .slice B7 s8.length Bc7, .int .i64 s9, .int .i64 s10, .int .i64 s11, .int .i64 s12, .slice B12 s13.length Bc12, .int .i64 s14, .int .i64 s15, .int .i64 s16]] (wanted_on rfl rfl rfl (e35.trans (by first | rfl | (simp [*]; done)))) rfl rfl (by first | (simp only [List.map_toArray, List.map_cons, List.map_nil, Act.eval, Array.getD_eq_getD_getElem?, Option.getD_some, e36, e35]; done) | (simp only [List.map_toArray, List.map_cons, List.map_nil, Act.eval, Array.getD_eq_getD_getElem?, Option.getD_some, e36, e35]; rfl)) ?_
            refine (impl_WorldText.calls kk s1 s2 s3 B3 Bc3 s4 B4 Bc4 s5 s6 s7 B7 Bc7 s8 s9 s10 s11 s12 B12 Bc12 s13 s14 s15 s16 T _ (Kd.C_below HRB3.out HB.out) HCB3.out (Kd.C_below HRB4.out HB.out) HCB4.out (Kd.C_below HRB7.out HB.out) HCB7.out (Kd.C_below HRB12.out HB.out) HCB12.out HT1.out (HTs.out.on (below_step HW5.out HB.out))).mono ?_
            rintro e w2 ⟨rfl, hb⟩
            refine ⟨_, rfl, ?_⟩
            refine hK.out _ _ ⟨(by rw [ha.out]; exact putSel_upk 1 hb_ rfl rfl rfl), below_step HB.out hb⟩
          refine steps_cons ?_ ?_
          · rintro b a w' ⟨ha, Q_HB⟩ hb_ hon hoff
            refine ⟨_, rfl, fun K hK => ?_⟩
            have e37 : a.tmps[37]? = some (.string T) := by rw [ha]; exact putSel_on (e := (3, 37, .string T)) 1 rfl rfl (hon 3 (by kernel_rfl)) rfl
            have e38 : a.tmps[38]? = some (.string T) := by rw [ha]; exact (putSel_off rfl).trans rfl
            have e35 : a.tmps[35]? = some (.bool true) := by rw [ha]; exact (putSel_off rfl).trans rfl
            replace ha := Aside0.mk ha
            have HB := Aside0.mk Q_HB
            refine value_ (w1 := w') (v := .bool true) (wanted_on rfl rfl rfl (e35.trans (by first | rfl | (simp [*]; done)))) rfl ?_ ?_
            · go_simp
              (try simp only [i64_w])
              try rfl
            refine hK.out _ _ ⟨(by rw [ha.out]; exact putSel_upk 2 hb_ rfl rfl rfl), Q_HB⟩
          refine steps_cons ?_ ?_
          · rintro b a w' ⟨ha, Q_HB⟩ hb_ hon hoff
            refine ⟨_, rfl, fun K hK => ?_⟩
            have e35 : a.tmps[35]? = some (.bool true) := by rw [ha]; exact (putSel_off rfl).trans rfl
            have e39 : a.tmps[39]? = some (.bool true) := by rw [ha]; exact putSel_on (e := (5, 39, .bool true)) 2 rfl rfl (hon 5 (by kernel_rfl)) rfl
            replace ha := Aside0.mk ha
            have HB := Aside0.mk Q_HB
            refine value_ (w1 := w') (v := .bool true) (by rfl) rfl ?_ ?_
            · go_simp
              (try simp only [i64_w])
              try rfl
            refine hK.out _ _ ⟨(by rw [ha.out]; exact putSel_upk 3 hb_ rfl rfl rfl), Q_HB⟩
          refine steps_cons ?_ ?_
          · rintro b a w' ⟨ha, Q_HB⟩ hb_ hon hoff
            refine ⟨_, rfl, fun K hK => ?_⟩
            have e40 : a.tmps[40]? = some (.bool true) := by rw [ha]; exact putSel_on (e := (6, 40, .bool true)) 3 rfl rfl (hon 6 (by kernel_rfl)) rfl
            replace ha := Aside0.mk ha
            have HB := Aside0.mk Q_HB
            refine value_ (w1 := w') (v := .bool true) (by rfl) rfl ?_ ?_
            · go_simp
              (try simp only [i64_w])
              try rfl
            refine hK.out _ _ ⟨(by rw [ha.out]; exact putSel_upk 4 hb_ rfl rfl rfl), Q_HB⟩
          refine steps_cons ?_ ?_
          · rintro b a w' ⟨ha, Q_HB⟩ hb_ hon hoff
            refine ⟨_, rfl, fun K hK => ?_⟩
            have e7 : a.tmps[7]? = some (.int .i64 r) := by rw [ha]; exact (putSel_off rfl).trans rfl
            have e41 : a.tmps[41]? = some (.bool true) := by rw [ha]; exact putSel_on (e := (7, 41, .bool true)) 4 rfl rfl (hon 7 (by kernel_rfl)) rfl
            replace ha := Aside0.mk ha
            have HB := Aside0.mk Q_HB
            refine value_ (w1 := w') (v := .int .i64 r) (wanted_on rfl rfl rfl (e41.trans (by first | rfl | (simp [*]; done)))) rfl ?_ ?_
            · go_simp
              (try simp only [i64_w])
              try rfl
            refine hK.out _ _ ⟨(by rw [ha.out]; exact putSel_upk 5 hb_ rfl rfl rfl), Q_HB⟩
          refine steps_cons ?_ ?_
          · rintro b a w' ⟨ha, Q_HB⟩ hb_ hon hoff
            refine ⟨_, rfl, fun K hK => ?_⟩
            have e3 : a.tmps[3]? = some (.pointer (some ⟨g3, 0, none⟩)) := by rw [ha]; exact (putSel_off rfl).trans rfl
            have e41 : a.tmps[41]? = some (.bool true) := by rw [ha]; exact putSel_on (e := (7, 41, .bool true)) 4 rfl rfl (hon 7 (by kernel_rfl)) rfl
            replace ha := Aside0.mk ha
            have HB := Aside0.mk Q_HB
            refine value_ (w1 := w') (v := .agg #[.int .i64 s1, .int .i64 s2, .int .i64 s3, .slice A3 s4.length Ac3, .slice A4 s5.length Ac4, .int .i64 s6, .int .i64 s7, .slice A7 s8.length Ac7, .int .i64 s9, .int .i64 s10, .int .i64 s11, .int .i64 s12, .slice A12 s13.length Ac12, .int .i64 s14, .int .i64 s15, .int .i64 s16]) (wanted_on rfl rfl rfl (e41.trans (by first | rfl | (simp [*]; done)))) rfl (loadAll 36 (.tmp 3) rfl g3 (by simp only [Act.eval, Array.getD_eq_getD_getElem?, e3, Option.getD_some]) 36 _ _ (blk_below BK3.out (below_step HW5.out HB.out)) Tryz.underlying36 rfl (by kernel_rfl)) ?_
            refine hK.out _ _ ⟨(by rw [ha.out]; exact putSel_upk 6 hb_ rfl rfl rfl), HB.out⟩
          refine steps_cons ?_ ?_
          · rintro b a w' ⟨ha, Q_HB⟩ hb_ hon hoff
            refine ⟨_, rfl, fun K hK => ?_⟩
            have e0 : a.tmps[0]? = some (.slice A0 l0.length c0) := by rw [ha]; exact (putSel_off rfl).trans rfl
            have e41 : a.tmps[41]? = some (.bool true) := by rw [ha]; exact putSel_on (e := (7, 41, .bool true)) 4 rfl rfl (hon 7 (by kernel_rfl)) rfl
            replace ha := Aside0.mk ha
            have HB := Aside0.mk Q_HB
            refine value_ (w1 := w') (v := .slice A0 l0.length c0) (wanted_on rfl rfl rfl (e41.trans (by first | rfl | (simp [*]; done)))) rfl ?_ ?_
            · go_simp
              (try simp only [i64_w])
              try rfl
            refine hK.out _ _ ⟨(by rw [ha.out]; exact putSel_upk 7 hb_ rfl rfl rfl), Q_HB⟩
          refine steps_cons ?_ ?_
          · rintro b a w' ⟨ha, Q_HB⟩ hb_ hon hoff
            refine ⟨_, rfl, fun K hK => ?_⟩
            have e44 : a.tmps[44]? = some (.slice A0 l0.length c0) := by rw [ha]; exact putSel_on (e := (10, 44, .slice A0 l0.length c0)) 7 rfl rfl (hon 10 (by kernel_rfl)) rfl
            have e41 : a.tmps[41]? = some (.bool true) := by rw [ha]; exact putSel_on (e := (7, 41, .bool true)) 4 rfl rfl (hon 7 (by kernel_rfl)) rfl
            replace ha := Aside0.mk ha
            have HB := Aside0.mk Q_HB
            refine goes_ Tryz.func11 (by kernel_rfl) rfl #[.slice A0 l0.length c0, .int .i64 0] (wanted_on rfl rfl rfl (e41.trans (by first | rfl | (simp [*]; done)))) rfl rfl (by first | (simp only [List.map_toArray, List.map_cons, List.map_nil, Act.eval, Array.getD_eq_getD_getElem?, Option.getD_some, e44, e41]; done) | (simp only [List.map_toArray, List.map_cons, List.map_nil, Act.eval, Array.getD_eq_getD_getElem?, Option.getD_some, e44, e41]; rfl)) ?_
            refine (laws_at.calls A0 c0 l0 0 t _ (Kd.C_below HR0.out (below_step HW.out (below_step HW5.out HB.out))) HC0.out HAT.out).mono ?_
            rintro e w2 ⟨rfl, ⟨nd, rfl⟩⟩
            refine ⟨_, rfl, ?_⟩
            refine hK.out _ _ ⟨(by rw [ha.out]; exact putSel_upk 8 hb_ rfl rfl rfl), pw_below_drewN HB.out nd⟩
          refine steps_cons ?_ ?_
          · rintro b a w' ⟨ha, Q_HB⟩ hb_ hon hoff
            refine ⟨_, rfl, fun K hK => ?_⟩
            have e43 : a.tmps[43]? = some (.agg #[.int .i64 s1, .int .i64 s2, .int .i64 s3, .slice A3 s4.length Ac3, .slice A4 s5.length Ac4, .int .i64 s6, .int .i64 s7, .slice A7 s8.length Ac7, .int .i64 s9, .int .i64 s10, .int .i64 s11, .int .i64 s12, .slice A12 s13.length Ac12, .int .i64 s14, .int .i64 s15, .int .i64 s16]) := by rw [ha]; exact putSel_on (e := (9, 43, .agg #[.int .i64 s1, .int .i64 s2, .int .i64 s3, .slice A3 s4.length Ac3, .slice A4 s5.length Ac4, .int .i64 s6, .int .i64 s7, .slice A7 s8.length Ac7, .int .i64 s9, .int .i64 s10, .int .i64 s11, .int .i64 s12, .slice A12 s13.length Ac12, .int .i64 s14, .int .i64 s15, .int .i64 s16])) 6 rfl rfl (hon 9 (by kernel_rfl)) rfl
            have e45 : a.tmps[45]? = some (.int .i64 t) := by rw [ha]; exact putSel_on (e := (11, 45, .int .i64 t)) 8 rfl rfl (hon 11 (by kernel_rfl)) rfl
            have e41 : a.tmps[41]? = some (.bool true) := by rw [ha]; exact putSel_on (e := (7, 41, .bool true)) 4 rfl rfl (hon 7 (by kernel_rfl)) rfl
            replace ha := Aside0.mk ha
            have HB := Aside0.mk Q_HB
            refine goes_ Tryz.func12 (by kernel_rfl) rfl #[.agg #[.int .i64 s1, .int .i64 s2, .int .i64 s3, .slice A3 s4.length Ac3, .slice A4 s5.length Ac4, .int .i64 s6, .int .i64 s7, .slice A7 s8.length Ac7, .int .i64 s9, .int .i64 s10, .int .i64 s11, .int .i64 s12, .slice A12 s13.length Ac12, .int .i64 s14, .int .i64 s15, .int .i64 s16], .int .i64 t] (wanted_on rfl rfl rfl (e41.trans (by first | rfl | (simp [*]; done)))) rfl rfl (by first | (simp only [List.map_toArray, List.map_cons, List.map_nil, Act.eval, Array.getD_eq_getD_getElem?, Option.getD_some, e43, e45, e41]; done) | (simp only [List.map_toArray, List.map_cons, List.map_nil, Act.eval, Array.getD_eq_getD_getElem?, Option.getD_some, e43, e45, e41]; rfl)) ?_
            refine (spec_IdealAt.calls kk s1 s2 s3 A3 Ac3 s4 A4 Ac4 s5 s6 s7 A7 Ac7 s8 s9 s10 s11 s12 A12 Ac12 s13 s14 s15 s16 t r _ (Kd.C_below HRA3.out (below_step HW5.out HB.out)) HCA3.out (Kd.C_below HRA4.out (below_step HW5.out HB.out)) HCA4.out (Kd.C_below HRA7.out (below_step HW5.out HB.out)) HCA7.out (Kd.C_below HRA12.out (below_step HW5.out HB.out)) HCA12.out HI2.out).mono ?_
            rintro e w2 ⟨rfl, hb⟩
            refine ⟨_, rfl, ?_⟩
            refine hK.out _ _ ⟨(by rw [ha.out]; exact putSel_upk 9 hb_ rfl rfl rfl), below_step HB.out hb⟩
          refine steps_cons ?_ ?_
          · rintro b a w' ⟨ha, Q_HB⟩ hb_ hon hoff
            refine ⟨_, rfl, fun K hK => ?_⟩
            have e42 : a.tmps[42]? = some (.int .i64 r) := by rw [ha]; exact putSel_on (e := (8, 42, .int .i64 r)) 5 rfl rfl (hon 8 (by kernel_rfl)) rfl
            have e46 : a.tmps[46]? = some (.int .i64 r) := by rw [ha]; exact putSel_on (e := (12, 46, .int .i64 r)) 9 rfl rfl (hon 12 (by kernel_rfl)) rfl
            have e41 : a.tmps[41]? = some (.bool true) := by rw [ha]; exact putSel_on (e := (7, 41, .bool true)) 4 rfl rfl (hon 7 (by kernel_rfl)) rfl
            replace ha := Aside0.mk ha
            have HB := Aside0.mk Q_HB
            refine value_ (w1 := w') (v := .bool true) (wanted_on rfl rfl rfl (e41.trans (by first | rfl | (simp [*]; done)))) rfl ?_ ?_
            · go_simp
              (try simp only [i64_w])
              try rfl
            refine hK.out _ _ ⟨(by rw [ha.out]; exact putSel_upk 10 hb_ rfl rfl rfl), Q_HB⟩
          refine steps_cons ?_ ?_
          · rintro b a w' ⟨ha, Q_HB⟩ hb_ hon hoff
            refine ⟨_, rfl, fun K hK => ?_⟩
            have e41 : a.tmps[41]? = some (.bool true) := by rw [ha]; exact putSel_on (e := (7, 41, .bool true)) 4 rfl rfl (hon 7 (by kernel_rfl)) rfl
            have e47 : a.tmps[47]? = some (.bool true) := by rw [ha]; exact putSel_on (e := (13, 47, .bool true)) 10 rfl rfl (hon 13 (by kernel_rfl)) rfl
            replace ha := Aside0.mk ha
            have HB := Aside0.mk Q_HB
            refine value_ (w1 := w') (v := .bool true) (by rfl) rfl ?_ ?_
            · go_simp
              (try simp only [i64_w])
              try rfl
            refine hK.out _ _ ⟨(by rw [ha.out]; exact putSel_upk 11 hb_ rfl rfl rfl), Q_HB⟩
          refine steps_cons ?_ ?_
          · rintro b a w' ⟨ha, Q_HB⟩ hb_ hon hoff
            refine ⟨_, rfl, fun K hK => ?_⟩
            have e48 : a.tmps[48]? = some (.bool true) := by rw [ha]; exact putSel_on (e := (14, 48, .bool true)) 11 rfl rfl (hon 14 (by kernel_rfl)) rfl
            replace ha := Aside0.mk ha
            have HB := Aside0.mk Q_HB
            refine value_ (w1 := w') (v := .bool true) (by rfl) rfl ?_ ?_
            · go_simp
              (try simp only [i64_w])
              try rfl
            refine hK.out _ _ ⟨(by rw [ha.out]; exact putSel_upk 12 hb_ rfl rfl rfl), Q_HB⟩
          refine steps_cons ?_ ?_
          · rintro b a w' ⟨ha, Q_HB⟩ hb_ hon hoff
            refine ⟨_, rfl, fun K hK => ?_⟩
            have e7 : a.tmps[7]? = some (.int .i64 r) := by rw [ha]; exact (putSel_off rfl).trans rfl
            have e49 : a.tmps[49]? = some (.bool true) := by rw [ha]; exact putSel_on (e := (15, 49, .bool true)) 12 rfl rfl (hon 15 (by kernel_rfl)) rfl
            replace ha := Aside0.mk ha
            have HB := Aside0.mk Q_HB
            refine value_ (w1 := w') (v := .int .i64 r) (wanted_on rfl rfl rfl (e49.trans (by first | rfl | (simp [*]; done)))) rfl ?_ ?_
            · go_simp
              (try simp only [i64_w])
              try rfl
            refine hK.out _ _ ⟨(by rw [ha.out]; exact putSel_upk 13 hb_ rfl rfl rfl), Q_HB⟩
          refine steps_cons ?_ ?_
          · rintro b a w' ⟨ha, Q_HB⟩ hb_ hon hoff
            refine ⟨_, rfl, fun K hK => ?_⟩
            have e3 : a.tmps[3]? = some (.pointer (some ⟨g3, 0, none⟩)) := by rw [ha]; exact (putSel_off rfl).trans rfl
            have e49 : a.tmps[49]? = some (.bool true) := by rw [ha]; exact putSel_on (e := (15, 49, .bool true)) 12 rfl rfl (hon 15 (by kernel_rfl)) rfl
            replace ha := Aside0.mk ha
            have HB := Aside0.mk Q_HB
            refine value_ (w1 := w') (v := .pointer (some ⟨g3, 0, none⟩)) (wanted_on rfl rfl rfl (e49.trans (by first | rfl | (simp [*]; done)))) rfl ?_ ?_
            · go_simp
              (try simp only [i64_w])
              try rfl
            refine hK.out _ _ ⟨(by rw [ha.out]; exact putSel_upk 14 hb_ rfl rfl rfl), Q_HB⟩
          refine steps_cons ?_ ?_
          · rintro b a w' ⟨ha, Q_HB⟩ hb_ hon hoff
            refine ⟨_, rfl, fun K hK => ?_⟩
            have e51 : a.tmps[51]? = some (.pointer (some ⟨g3, 0, none⟩)) := by rw [ha]; exact putSel_on (e := (17, 51, .pointer (some ⟨g3, 0, none⟩))) 14 rfl rfl (hon 17 (by kernel_rfl)) rfl
            have e49 : a.tmps[49]? = some (.bool true) := by rw [ha]; exact putSel_on (e := (15, 49, .bool true)) 12 rfl rfl (hon 15 (by kernel_rfl)) rfl
            replace ha := Aside0.mk ha
            have HB := Aside0.mk Q_HB
            refine value_ (w1 := w') (v := .pointer (some ⟨g3, 4, none⟩)) (wanted_on rfl rfl rfl (e49.trans (by first | rfl | (simp [*]; done)))) rfl ?_ ?_
            · go_simp
              (try simp only [i64_w])
              try rfl
            refine hK.out _ _ ⟨(by rw [ha.out]; exact putSel_upk 15 hb_ rfl rfl rfl), Q_HB⟩
          refine steps_cons ?_ ?_
          · rintro b a w' ⟨ha, Q_HB⟩ hb_ hon hoff
            refine ⟨_, rfl, fun K hK => ?_⟩
            have e52 : a.tmps[52]? = some (.pointer (some ⟨g3, 4, none⟩)) := by rw [ha]; exact putSel_on (e := (18, 52, .pointer (some ⟨g3, 4, none⟩))) 15 rfl rfl (hon 18 (by kernel_rfl)) rfl
            have e49 : a.tmps[49]? = some (.bool true) := by rw [ha]; exact putSel_on (e := (15, 49, .bool true)) 12 rfl rfl (hon 15 (by kernel_rfl)) rfl
            replace ha := Aside0.mk ha
            have HB := Aside0.mk Q_HB
            refine value_ (w1 := w') (v := .pointer (some ⟨g3, 11, none⟩)) (wanted_on rfl rfl rfl (e49.trans (by first | rfl | (simp [*]; done)))) rfl ?_ ?_
            · go_simp
              (try simp only [i64_w])
              try rfl
            refine hK.out _ _ ⟨(by rw [ha.out]; exact putSel_upk 16 hb_ rfl rfl rfl), Q_HB⟩
          refine steps_cons ?_ ?_
          · rintro b a w' ⟨ha, Q_HB⟩ hb_ hon hoff
            refine ⟨_, rfl, fun K hK => ?_⟩
            have e53 : a.tmps[53]? = some (.pointer (some ⟨g3, 11, none⟩)) := by rw [ha]; exact putSel_on (e := (19, 53, .pointer (some ⟨g3, 11, none⟩))) 16 rfl rfl (hon 19 (by kernel_rfl)) rfl
            have e49 : a.tmps[49]? = some (.bool true) := by rw [ha]; exact putSel_on (e := (15, 49, .bool true)) 12 rfl rfl (hon 15 (by kernel_rfl)) rfl
            replace ha := Aside0.mk ha
            have HB := Aside0.mk Q_HB
            have hs_ : w'.cell? ⟨g3, 11, none⟩ = some (.int .i64 s12) := (blk_cell (blk_below BK3.out (below_step HW5.out HB.out)) 11).trans rfl
            refine value_ (w1 := w') (v := .int .i64 s12) (wanted_on rfl rfl rfl (e49.trans (by first | rfl | (simp [*]; done)))) rfl ?_ ?_
            · go_simp
              (try simp only [i64_w])
              try rfl
            refine hK.out _ _ ⟨(by rw [ha.out]; exact putSel_upk 17 hb_ rfl rfl rfl), Q_HB⟩
          refine steps_cons ?_ ?_
          · rintro b a w' ⟨ha, Q_HB⟩ hb_ hon hoff
            refine ⟨_, rfl, fun K hK => ?_⟩
            have e50 : a.tmps[50]? = some (.int .i64 r) := by rw [ha]; exact putSel_on (e := (16, 50, .int .i64 r)) 13 rfl rfl (hon 16 (by kernel_rfl)) rfl
            have e54 : a.tmps[54]? = some (.int .i64 s12) := by rw [ha]; exact putSel_on (e := (20, 54, .int .i64 s12)) 17 rfl rfl (hon 20 (by kernel_rfl)) rfl
            have e49 : a.tmps[49]? = some (.bool true) := by rw [ha]; exact putSel_on (e := (15, 49, .bool true)) 12 rfl rfl (hon 15 (by kernel_rfl)) rfl
            replace ha := Aside0.mk ha
            have HB := Aside0.mk Q_HB
            refine value_ (w1 := w') (v := .bool true) (wanted_on rfl rfl rfl (e49.trans (by first | rfl | (simp [*]; done)))) rfl ?_ ?_
            · go_simp
              (try simp only [i64_w])
              try rfl
            refine hK.out _ _ ⟨(by rw [ha.out]; exact putSel_upk 18 hb_ rfl rfl rfl), Q_HB⟩
          refine steps_cons ?_ ?_
          · rintro b a w' ⟨ha, Q_HB⟩ hb_ hon hoff
            refine ⟨_, rfl, fun K hK => ?_⟩
            have e49 : a.tmps[49]? = some (.bool true) := by rw [ha]; exact putSel_on (e := (15, 49, .bool true)) 12 rfl rfl (hon 15 (by kernel_rfl)) rfl
            have e55 : a.tmps[55]? = some (.bool true) := by rw [ha]; exact putSel_on (e := (21, 55, .bool true)) 18 rfl rfl (hon 21 (by kernel_rfl)) rfl
            replace ha := Aside0.mk ha
            have HB := Aside0.mk Q_HB
            refine value_ (w1 := w') (v := .bool true) (by rfl) rfl ?_ ?_
            · go_simp
              (try simp only [i64_w])
              try rfl
            refine hK.out _ _ ⟨(by rw [ha.out]; exact putSel_upk 19 hb_ rfl rfl rfl), Q_HB⟩
          refine steps_cons ?_ ?_
          · rintro b a w' ⟨ha, Q_HB⟩ hb_ hon hoff
            refine ⟨_, rfl, fun K hK => ?_⟩
            have e56 : a.tmps[56]? = some (.bool true) := by rw [ha]; exact putSel_on (e := (22, 56, .bool true)) 19 rfl rfl (hon 22 (by kernel_rfl)) rfl
            replace ha := Aside0.mk ha
            have HB := Aside0.mk Q_HB
            refine value_ (w1 := w') (v := .bool true) (by rfl) rfl ?_ ?_
            · go_simp
              (try simp only [i64_w])
              try rfl
            refine hK.out _ _ ⟨(by rw [ha.out]; exact putSel_upk 20 hb_ rfl rfl rfl), Q_HB⟩
          refine steps_cons ?_ ?_
          · rintro b a w' ⟨ha, Q_HB⟩ hb_ hon hoff
            refine ⟨_, rfl, fun K hK => ?_⟩
            have e7 : a.tmps[7]? = some (.int .i64 r) := by rw [ha]; exact (putSel_off rfl).trans rfl
            have e57 : a.tmps[57]? = some (.bool true) := by rw [ha]; exact putSel_on (e := (23, 57, .bool true)) 20 rfl rfl (hon 23 (by kernel_rfl)) rfl
            replace ha := Aside0.mk ha
            have HB := Aside0.mk Q_HB
            refine value_ (w1 := w') (v := .int .i64 r) (wanted_on rfl rfl rfl (e57.trans (by first | rfl | (simp [*]; done)))) rfl ?_ ?_
            · go_simp
              (try simp only [i64_w])
              try rfl
            refine hK.out _ _ ⟨(by rw [ha.out]; exact putSel_upk 21 hb_ rfl rfl rfl), Q_HB⟩
          refine steps_cons ?_ ?_
          · rintro b a w' ⟨ha, Q_HB⟩ hb_ hon hoff
            refine ⟨_, rfl, fun K hK => ?_⟩
            have e3 : a.tmps[3]? = some (.pointer (some ⟨g3, 0, none⟩)) := by rw [ha]; exact (putSel_off rfl).trans rfl
            have e57 : a.tmps[57]? = some (.bool true) := by rw [ha]; exact putSel_on (e := (23, 57, .bool true)) 20 rfl rfl (hon 23 (by kernel_rfl)) rfl
            replace ha := Aside0.mk ha
            have HB := Aside0.mk Q_HB
            refine value_ (w1 := w') (v := .pointer (some ⟨g3, 0, none⟩)) (wanted_on rfl rfl rfl (e57.trans (by first | rfl | (simp [*]; done)))) rfl ?_ ?_
            · go_simp
              (try simp only [i64_w])
              try rfl
            refine hK.out _ _ ⟨(by rw [ha.out]; exact putSel_upk 22 hb_ rfl rfl rfl), Q_HB⟩
          refine steps_cons ?_ ?_
          · rintro b a w' ⟨ha, Q_HB⟩ hb_ hon hoff
            refine ⟨_, rfl, fun K hK => ?_⟩
            have e59 : a.tmps[59]? = some (.pointer (some ⟨g3, 0, none⟩)) := by rw [ha]; exact putSel_on (e := (25, 59, .pointer (some ⟨g3, 0, none⟩))) 22 rfl rfl (hon 25 (by kernel_rfl)) rfl
            have e57 : a.tmps[57]? = some (.bool true) := by rw [ha]; exact putSel_on (e := (23, 57, .bool true)) 20 rfl rfl (hon 23 (by kernel_rfl)) rfl
            replace ha := Aside0.mk ha
            have HB := Aside0.mk Q_HB
            refine value_ (w1 := w') (v := .pointer (some ⟨g3, 4, none⟩)) (wanted_on rfl rfl rfl (e57.trans (by first | rfl | (simp [*]; done)))) rfl ?_ ?_
            · go_simp
              (try simp only [i64_w])
              try rfl
            refine hK.out _ _ ⟨(by rw [ha.out]; exact putSel_upk 23 hb_ rfl rfl rfl), Q_HB⟩
          refine steps_cons ?_ ?_
          · rintro b a w' ⟨ha, Q_HB⟩ hb_ hon hoff
            refine ⟨_, rfl, fun K hK => ?_⟩
            have e60 : a.tmps[60]? = some (.pointer (some ⟨g3, 4, none⟩)) := by rw [ha]; exact putSel_on (e := (26, 60, .pointer (some ⟨g3, 4, none⟩))) 23 rfl rfl (hon 26 (by kernel_rfl)) rfl
            have e57 : a.tmps[57]? = some (.bool true) := by rw [ha]; exact putSel_on (e := (23, 57, .bool true)) 20 rfl rfl (hon 23 (by kernel_rfl)) rfl
            replace ha := Aside0.mk ha
            have HB := Aside0.mk Q_HB
            refine value_ (w1 := w') (v := .pointer (some ⟨g3, 10, none⟩)) (wanted_on rfl rfl rfl (e57.trans (by first | rfl | (simp [*]; done)))) rfl ?_ ?_
            · go_simp
              (try simp only [i64_w])
              try rfl
            refine hK.out _ _ ⟨(by rw [ha.out]; exact putSel_upk 24 hb_ rfl rfl rfl), Q_HB⟩
          refine steps_cons ?_ ?_
          · rintro b a w' ⟨ha, Q_HB⟩ hb_ hon hoff
            refine ⟨_, rfl, fun K hK => ?_⟩
            have e61 : a.tmps[61]? = some (.pointer (some ⟨g3, 10, none⟩)) := by rw [ha]; exact putSel_on (e := (27, 61, .pointer (some ⟨g3, 10, none⟩))) 24 rfl rfl (hon 27 (by kernel_rfl)) rfl
            have e57 : a.tmps[57]? = some (.bool true) := by rw [ha]; exact putSel_on (e := (23, 57, .bool true)) 20 rfl rfl (hon 23 (by kernel_rfl)) rfl
            replace ha := Aside0.mk ha
            have HB := Aside0.mk Q_HB
            have hs_ : w'.cell? ⟨g3, 10, none⟩ = some (.int .i64 s11) := (blk_cell (blk_below BK3.out (below_step HW5.out HB.out)) 10).trans rfl
            refine value_ (w1 := w') (v := .int .i64 s11) (wanted_on rfl rfl rfl (e57.trans (by first | rfl | (simp [*]; done)))) rfl ?_ ?_
            · go_simp
              (try simp only [i64_w])
              try rfl
            refine hK.out _ _ ⟨(by rw [ha.out]; exact putSel_upk 25 hb_ rfl rfl rfl), Q_HB⟩
          refine steps_cons ?_ ?_
          · rintro b a w' ⟨ha, Q_HB⟩ hb_ hon hoff
            refine ⟨_, rfl, fun K hK => ?_⟩
            have e58 : a.tmps[58]? = some (.int .i64 r) := by rw [ha]; exact putSel_on (e := (24, 58, .int .i64 r)) 21 rfl rfl (hon 24 (by kernel_rfl)) rfl
            have e62 : a.tmps[62]? = some (.int .i64 s11) := by rw [ha]; exact putSel_on (e := (28, 62, .int .i64 s11)) 25 rfl rfl (hon 28 (by kernel_rfl)) rfl
            have e57 : a.tmps[57]? = some (.bool true) := by rw [ha]; exact putSel_on (e := (23, 57, .bool true)) 20 rfl rfl (hon 23 (by kernel_rfl)) rfl
            replace ha := Aside0.mk ha
            have HB := Aside0.mk Q_HB
            refine value_ (w1 := w') (v := .bool false) (wanted_on rfl rfl rfl (e57.trans (by first | rfl | (simp [*]; done)))) rfl ?_ ?_
            · go_simp
              (try simp only [i64_w])
              try rfl
            refine hK.out _ _ ⟨(by rw [ha.out]; exact putSel_upk 26 hb_ rfl rfl rfl), Q_HB⟩
          refine steps_cons ?_ ?_
          · rintro b a w' ⟨ha, Q_HB⟩ hb_ hon hoff
            refine ⟨_, rfl, fun K hK => ?_⟩
            have e63 : a.tmps[63]? = some (.bool false) := by rw [ha]; exact putSel_on (e := (29, 63, .bool false)) 26 rfl rfl (hon 29 (by kernel_rfl)) rfl
            have e57 : a.tmps[57]? = some (.bool true) := by rw [ha]; exact putSel_on (e := (23, 57, .bool true)) 20 rfl rfl (hon 23 (by kernel_rfl)) rfl
            replace ha := Aside0.mk ha
            have HB := Aside0.mk Q_HB
            refine value_ (w1 := w') (v := .bool false) (wanted_on rfl rfl rfl (e57.trans (by first | rfl | (simp [*]; done)))) rfl ?_ ?_
            · go_simp
              (try simp only [i64_w])
              try rfl
            refine hK.out _ _ ⟨(by rw [ha.out]; exact putSel_upk 27 hb_ rfl rfl rfl), Q_HB⟩
          refine steps_cons ?_ ?_
          · rintro b a w' ⟨ha, Q_HB⟩ hb_ hon hoff
            refine ⟨_, rfl, fun K hK => ?_⟩
            have e7 : a.tmps[7]? = some (.int .i64 r) := by rw [ha]; exact (putSel_off rfl).trans rfl
            have e64 : a.tmps[64]? = some (.bool false) := by rw [ha]; exact putSel_on (e := (30, 64, .bool false)) 27 rfl rfl (hon 30 (by kernel_rfl)) rfl
            replace ha := Aside0.mk ha
            have HB := Aside0.mk Q_HB
            refine value_ (w1 := w') (v := .int .i64 r) (wanted_on rfl rfl rfl (e64.trans (by first | rfl | (simp [*]; done)))) rfl ?_ ?_
            · go_simp
              (try simp only [i64_w])
              try rfl
            refine hK.out _ _ ⟨(by rw [ha.out]; exact putSel_upk 28 hb_ rfl rfl rfl), Q_HB⟩
          refine steps_cons ?_ ?_
          · rintro b a w' ⟨ha, Q_HB⟩ hb_ hon hoff
            refine ⟨_, rfl, fun K hK => ?_⟩
            have e65 : a.tmps[65]? = some (.int .i64 r) := by rw [ha]; exact putSel_on (e := (31, 65, .int .i64 r)) 28 rfl rfl (hon 31 (by kernel_rfl)) rfl
            have e64 : a.tmps[64]? = some (.bool false) := by rw [ha]; exact putSel_on (e := (30, 64, .bool false)) 27 rfl rfl (hon 30 (by kernel_rfl)) rfl
            replace ha := Aside0.mk ha
            have HB := Aside0.mk Q_HB
            refine value_ (w1 := w') (v := .bool true) (wanted_on rfl rfl rfl (e64.trans (by first | rfl | (simp [*]; done)))) rfl ?_ ?_
            · go_simp
              (try simp only [i64_w])
              try rfl
            refine hK.out _ _ ⟨(by rw [ha.out]; exact putSel_upk 29 hb_ rfl rfl rfl), Q_HB⟩
          refine steps_cons ?_ ?_
          · rintro b a w' ⟨ha, Q_HB⟩ hb_ hon hoff
            refine ⟨_, rfl, fun K hK => ?_⟩
            have e64 : a.tmps[64]? = some (.bool false) := by rw [ha]; exact putSel_on (e := (30, 64, .bool false)) 27 rfl rfl (hon 30 (by kernel_rfl)) rfl
            have e66 : a.tmps[66]? = some (.bool true) := by rw [ha]; exact putSel_on (e := (32, 66, .bool true)) 29 rfl rfl (hon 32 (by kernel_rfl)) rfl
            have e57 : a.tmps[57]? = some (.bool true) := by rw [ha]; exact putSel_on (e := (23, 57, .bool true)) 20 rfl rfl (hon 23 (by kernel_rfl)) rfl
            replace ha := Aside0.mk ha
            have HB := Aside0.mk Q_HB
            refine value_ (w1 := w') (v := .bool true) (wanted_on rfl rfl rfl (e57.trans (by first | rfl | (simp [*]; done)))) rfl ?_ ?_
            · go_simp
              (try simp only [i64_w])
              try rfl
            refine hK.out _ _ ⟨(by rw [ha.out]; exact putSel_upk 30 hb_ rfl rfl rfl), Q_HB⟩
          refine steps_cons ?_ ?_
          · rintro b a w' ⟨ha, Q_HB⟩ hb_ hon hoff
            refine ⟨_, rfl, fun K hK => ?_⟩
            have e57 : a.tmps[57]? = some (.bool true) := by rw [ha]; exact putSel_on (e := (23, 57, .bool true)) 20 rfl rfl (hon 23 (by kernel_rfl)) rfl
            have e67 : a.tmps[67]? = some (.bool true) := by rw [ha]; exact putSel_on (e := (33, 67, .bool true)) 30 rfl rfl (hon 33 (by kernel_rfl)) rfl
            replace ha := Aside0.mk ha
            have HB := Aside0.mk Q_HB
            refine value_ (w1 := w') (v := .bool true) (by rfl) rfl ?_ ?_
            · go_simp
              (try simp only [i64_w])
              try rfl
            refine hK.out _ _ ⟨(by rw [ha.out]; exact putSel_upk 31 hb_ rfl rfl rfl), Q_HB⟩
          refine steps_cons ?_ ?_
          · rintro b a w' ⟨ha, Q_HB⟩ hb_ hon hoff
            refine ⟨_, rfl, fun K hK => ?_⟩
            have e68 : a.tmps[68]? = some (.bool true) := by rw [ha]; exact putSel_on (e := (34, 68, .bool true)) 31 rfl rfl (hon 34 (by kernel_rfl)) rfl
            replace ha := Aside0.mk ha
            have HB := Aside0.mk Q_HB
            refine value_ (w1 := w') (v := .bool true) (by rfl) rfl ?_ ?_
            · go_simp
              (try simp only [i64_w])
              try rfl
            refine hK.out _ _ ⟨(by rw [ha.out]; exact putSel_upk 32 hb_ rfl rfl rfl), Q_HB⟩
          refine steps_cons ?_ ?_
          · rintro b a w' ⟨ha, Q_HB⟩ hb_ hon hoff
            refine ⟨_, rfl, fun K hK => ?_⟩
            have e5 : a.tmps[5]? = some (.pointer (some ⟨g5, 0, none⟩)) := by rw [ha]; exact (putSel_off rfl).trans rfl
            have e69 : a.tmps[69]? = some (.bool true) := by rw [ha]; exact putSel_on (e := (35, 69, .bool true)) 32 rfl rfl (hon 35 (by kernel_rfl)) rfl
            replace ha := Aside0.mk ha
            have HB := Aside0.mk Q_HB
            refine value_ (w1 := w') (v := .agg #[.int .i64 s1, .int .i64 s2, .int .i64 s3, .slice B3 s4.length Bc3, .slice B4 s5.length Bc4, .int .i64 s6, .int .i64 s7, .slice B7 s8.length Bc7, .int .i64 s9, .int .i64 s10, .int .i64 s11, .int .i64 s12, .slice B12 s13.length Bc12, .int .i64 s14, .int .i64 s15, .int .i64 s16]) (wanted_on rfl rfl rfl (e69.trans (by first | rfl | (simp [*]; done)))) rfl (loadAll 36 (.tmp 5) rfl g5 (by simp only [Act.eval, Array.getD_eq_getD_getElem?, e5, Option.getD_some]) 36 _ _ (blk_below BK5.out HB.out) Tryz.underlying36 rfl (by kernel_rfl)) ?_
            refine hK.out _ _ ⟨(by rw [ha.out]; exact putSel_upk 33 hb_ rfl rfl rfl), HB.out⟩
          refine steps_cons ?_ ?_
          · rintro b a w' ⟨ha, Q_HB⟩ hb_ hon hoff
            refine ⟨_, rfl, fun K hK => ?_⟩
            have e0 : a.tmps[0]? = some (.slice A0 l0.length c0) := by rw [ha]; exact (putSel_off rfl).trans rfl
            have e69 : a.tmps[69]? = some (.bool true) := by rw [ha]; exact putSel_on (e := (35, 69, .bool true)) 32 rfl rfl (hon 35 (by kernel_rfl)) rfl
            replace ha := Aside0.mk ha
            have HB := Aside0.mk Q_HB
            refine value_ (w1 := w') (v := .slice A0 l0.length c0) (wanted_on rfl rfl rfl (e69.trans (by first | rfl | (simp [*]; done)))) rfl ?_ ?_
            · go_simp
              (try simp only [i64_w])
              try rfl
            refine hK.out _ _ ⟨(by rw [ha.out]; exact putSel_upk 34 hb_ rfl rfl rfl), Q_HB⟩
          refine steps_cons ?_ ?_
          · rintro b a w' ⟨ha, Q_HB⟩ hb_ hon hoff
            refine ⟨_, rfl, fun K hK => ?_⟩
            have e71 : a.tmps[71]? = some (.slice A0 l0.length c0) := by rw [ha]; exact putSel_on (e := (37, 71, .slice A0 l0.length c0)) 34 rfl rfl (hon 37 (by kernel_rfl)) rfl
            have e69 : a.tmps[69]? = some (.bool true) := by rw [ha]; exact putSel_on (e := (35, 69, .bool true)) 32 rfl rfl (hon 35 (by kernel_rfl)) rfl
            replace ha := Aside0.mk ha
            have HB := Aside0.mk Q_HB
            refine goes_ Tryz.func11 (by kernel_rfl) rfl #[.slice A0 l0.length c0, .int .i64 0] (wanted_on rfl rfl rfl (e69.trans (by first | rfl | (simp [*]; done)))) rfl rfl (by first | (simp only [List.map_toArray, List.map_cons, List.map_nil, Act.eval, Array.getD_eq_getD_getElem?, Option.getD_some, e71, e69]; done) | (simp only [List.map_toArray, List.map_cons, List.map_nil, Act.eval, Array.getD_eq_getD_getElem?, Option.getD_some, e71, e69]; rfl)) ?_
            refine (laws_at.calls A0 c0 l0 0 t _ (Kd.C_below HR0.out (below_step HW.out (below_step HW5.out HB.out))) HC0.out HAT.out).mono ?_
            rintro e w2 ⟨rfl, ⟨nd, rfl⟩⟩
            refine ⟨_, rfl, ?_⟩
            refine hK.out _ _ ⟨(by rw [ha.out]; exact putSel_upk 35 hb_ rfl rfl rfl), pw_below_drewN HB.out nd⟩
          refine steps_cons ?_ ?_
          · rintro b a w' ⟨ha, Q_HB⟩ hb_ hon hoff
            refine ⟨_, rfl, fun K hK => ?_⟩
            have e70 : a.tmps[70]? = some (.agg #[.int .i64 s1, .int .i64 s2, .int .i64 s3, .slice B3 s4.length Bc3, .slice B4 s5.length Bc4, .int .i64 s6, .int .i64 s7, .slice B7 s8.length Bc7, .int .i64 s9, .int .i64 s10, .int .i64 s11, .int .i64 s12, .slice B12 s13.length Bc12, .int .i64 s14, .int .i64 s15, .int .i64 s16]) := by rw [ha]; exact putSel_on (e := (36, 70, .agg #[.int .i64 s1, .int .i64 s2, .int .i64 s3, .slice B3 s4.length Bc3, .slice B4 s5.length Bc4, .int .i64 s6, .int .i64 s7, .slice B7 s8.length Bc7, .int .i64 s9, .int .i64 s10, .int .i64 s11, .int .i64 s12, .slice B12 s13.length Bc12, .int .i64 s14, .int .i64 s15, .int .i64 s16])) 33 rfl rfl (hon 36 (by kernel_rfl)) rfl
            have e72 : a.tmps[72]? = some (.int .i64 t) := by rw [ha]; exact putSel_on (e := (38, 72, .int .i64 t)) 35 rfl rfl (hon 38 (by kernel_rfl)) rfl
            have e69 : a.tmps[69]? = some (.bool true) := by rw [ha]; exact putSel_on (e := (35, 69, .bool true)) 32 rfl rfl (hon 35 (by kernel_rfl)) rfl
            replace ha := Aside0.mk ha
            have HB := Aside0.mk Q_HB
            refine goes_ Tryz.func13 (by kernel_rfl) rfl #[.agg #[.int .i64 s1, .int .i64 s2, .int .i64 s3, .slice B3 s4.length Bc3, .slice B4 s5.length Bc4, .int .i64 s6, .int .i64 s7, .slice B7 s8.length Bc7, .int .i64 s9, .int .i64 s10, .int .i64 s11, .int .i64 s12, .slice B12 s13.length Bc12, .int .i64 s14, .int .i64 s15, .int .i64 s16], .int .i64 t] (wanted_on rfl rfl rfl (e69.trans (by first | rfl | (simp [*]; done)))) rfl rfl (by first | (simp only [List.map_toArray, List.map_cons, List.map_nil, Act.eval, Array.getD_eq_getD_getElem?, Option.getD_some, e70, e72, e69]; done) | (simp only [List.map_toArray, List.map_cons, List.map_nil, Act.eval, Array.getD_eq_getD_getElem?, Option.getD_some, e70, e72, e69]; rfl)) ?_
            refine (impl_LoadAt.calls kk s1 s2 s3 B3 Bc3 s4 B4 Bc4 s5 s6 s7 B7 Bc7 s8 s9 s10 s11 s12 B12 Bc12 s13 s14 s15 s16 t q _ (Kd.C_below HRB3.out HB.out) HCB3.out (Kd.C_below HRB4.out HB.out) HCB4.out (Kd.C_below HRB7.out HB.out) HCB7.out (Kd.C_below HRB12.out HB.out) HCB12.out HQ1.out).mono ?_
            rintro e w2 ⟨rfl, hb⟩
            refine ⟨_, rfl, ?_⟩
            refine hK.out _ _ ⟨(by rw [ha.out]; exact putSel_upk 36 hb_ rfl rfl rfl), below_step HB.out hb⟩
          refine steps_cons ?_ ?_
          · rintro b a w' ⟨ha, Q_HB⟩ hb_ hon hoff
            refine ⟨_, rfl, fun K hK => ?_⟩
            have e3 : a.tmps[3]? = some (.pointer (some ⟨g3, 0, none⟩)) := by rw [ha]; exact (putSel_off rfl).trans rfl
            have e69 : a.tmps[69]? = some (.bool true) := by rw [ha]; exact putSel_on (e := (35, 69, .bool true)) 32 rfl rfl (hon 35 (by kernel_rfl)) rfl
            replace ha := Aside0.mk ha
            have HB := Aside0.mk Q_HB
            refine value_ (w1 := w') (v := .agg #[.int .i64 s1, .int .i64 s2, .int .i64 s3, .slice A3 s4.length Ac3, .slice A4 s5.length Ac4, .int .i64 s6, .int .i64 s7, .slice A7 s8.length Ac7, .int .i64 s9, .int .i64 s10, .int .i64 s11, .int .i64 s12, .slice A12 s13.length Ac12, .int .i64 s14, .int .i64 s15, .int .i64 s16]) (wanted_on rfl rfl rfl (e69.trans (by first | rfl | (simp [*]; done)))) rfl (loadAll 36 (.tmp 3) rfl g3 (by simp only [Act.eval, Array.getD_eq_getD_getElem?, e3, Option.getD_some]) 36 _ _ (blk_below BK3.out (below_step HW5.out HB.out)) Tryz.underlying36 rfl (by kernel_rfl)) ?_
            refine hK.out _ _ ⟨(by rw [ha.out]; exact putSel_upk 37 hb_ rfl rfl rfl), HB.out⟩
          refine steps_cons ?_ ?_
          · rintro b a w' ⟨ha, Q_HB⟩ hb_ hon hoff
            refine ⟨_, rfl, fun K hK => ?_⟩
            have e0 : a.tmps[0]? = some (.slice A0 l0.length c0) := by rw [ha]; exact (putSel_off rfl).trans rfl
            have e69 : a.tmps[69]? = some (.bool true) := by rw [ha]; exact putSel_on (e := (35, 69, .bool true)) 32 rfl rfl (hon 35 (by kernel_rfl)) rfl
            replace ha := Aside0.mk ha
            have HB := Aside0.mk Q_HB
            refine value_ (w1 := w') (v := .slice A0 l0.length c0) (wanted_on rfl rfl rfl (e69.trans (by first | rfl | (simp [*]; done)))) rfl ?_ ?_
            · go_simp
              (try simp only [i64_w])
              try rfl
            refine hK.out _ _ ⟨(by rw [ha.out]; exact putSel_upk 38 hb_ rfl rfl rfl), Q_HB⟩
          refine steps_cons ?_ ?_
          · rintro b a w' ⟨ha, Q_HB⟩ hb_ hon hoff
            refine ⟨_, rfl, fun K hK => ?_⟩
            have e75 : a.tmps[75]? = some (.slice A0 l0.length c0) := by rw [ha]; exact putSel_on (e := (41, 75, .slice A0 l0.length c0)) 38 rfl rfl (hon 41 (by kernel_rfl)) rfl
            have e69 : a.tmps[69]? = some (.bool true) := by rw [ha]; exact putSel_on (e := (35, 69, .bool true)) 32 rfl rfl (hon 35 (by kernel_rfl)) rfl
            replace ha := Aside0.mk ha
            have HB := Aside0.mk Q_HB
            refine goes_ Tryz.func11 (by kernel_rfl) rfl #[.slice A0 l0.length c0, .int .i64 0] (wanted_on rfl rfl rfl (e69.trans (by first | rfl | (simp [*]; done)))) rfl rfl (by first | (simp only [List.map_toArray, List.map_cons, List.map_nil, Act.eval, Array.getD_eq_getD_getElem?, Option.getD_some, e75, e69]; done) | (simp only [List.map_toArray, List.map_cons, List.map_nil, Act.eval, Array.getD_eq_getD_getElem?, Option.getD_some, e75, e69]; rfl)) ?_
            refine (laws_at.calls A0 c0 l0 0 t _ (Kd.C_below HR0.out (below_step HW.out (below_step HW5.out HB.out))) HC0.out HAT.out).mono ?_
            rintro e w2 ⟨rfl, ⟨nd, rfl⟩⟩
            refine ⟨_, rfl, ?_⟩
            refine hK.out _ _ ⟨(by rw [ha.out]; exact putSel_upk 39 hb_ rfl rfl rfl), pw_below_drewN HB.out nd⟩
          refine steps_cons ?_ ?_
          · rintro b a w' ⟨ha, Q_HB⟩ hb_ hon hoff
            refine ⟨_, rfl, fun K hK => ?_⟩
            have e74 : a.tmps[74]? = some (.agg #[.int .i64 s1, .int .i64 s2, .int .i64 s3, .slice A3 s4.length Ac3, .slice A4 s5.length Ac4, .int .i64 s6, .int .i64 s7, .slice A7 s8.length Ac7, .int .i64 s9, .int .i64 s10, .int .i64 s11, .int .i64 s12, .slice A12 s13.length Ac12, .int .i64 s14, .int .i64 s15, .int .i64 s16]) := by rw [ha]; exact putSel_on (e := (40, 74, .agg #[.int .i64 s1, .int .i64 s2, .int .i64 s3, .slice A3 s4.length Ac3, .slice A4 s5.length Ac4, .int .i64 s6, .int .i64 s7, .slice A7 s8.length Ac7, .int .i64 s9, .int .i64 s10, .int .i64 s11, .int .i64 s12, .slice A12 s13.length Ac12, .int .i64 s14, .int .i64 s15, .int .i64 s16])) 37 rfl rfl (hon 40 (by kernel_rfl)) rfl
            have e76 : a.tmps[76]? = some (.int .i64 t) := by rw [ha]; exact putSel_on (e := (42, 76, .int .i64 t)) 39 rfl rfl (hon 42 (by kernel_rfl)) rfl
            have e69 : a.tmps[69]? = some (.bool true) := by rw [ha]; exact putSel_on (e := (35, 69, .bool true)) 32 rfl rfl (hon 35 (by kernel_rfl)) rfl
            replace ha := Aside0.mk ha
            have HB := Aside0.mk Q_HB
            refine goes_ Tryz.func14 (by kernel_rfl) rfl #[.agg #[.int .i64 s1, .int .i64 s2, .int .i64 s3, .slice A3 s4.length Ac3, .slice A4 s5.length Ac4, .int .i64 s6, .int .i64 s7, .slice A7 s8.length Ac7, .int .i64 s9, .int .i64 s10, .int .i64 s11, .int .i64 s12, .slice A12 s13.length Ac12, .int .i64 s14, .int .i64 s15, .int .i64 s16], .int .i64 t] (wanted_on rfl rfl rfl (e69.trans (by first | rfl | (simp [*]; done)))) rfl rfl (by first | (simp only [List.map_toArray, List.map_cons, List.map_nil, Act.eval, Array.getD_eq_getD_getElem?, Option.getD_some, e74, e76, e69]; done) | (simp only [List.map_toArray, List.map_cons, List.map_nil, Act.eval, Array.getD_eq_getD_getElem?, Option.getD_some, e74, e76, e69]; rfl)) ?_
            refine (spec_LoadAt.calls kk s1 s2 s3 A3 Ac3 s4 A4 Ac4 s5 s6 s7 A7 Ac7 s8 s9 s10 s11 s12 A12 Ac12 s13 s14 s15 s16 t q _ (Kd.C_below HRA3.out (below_step HW5.out HB.out)) HCA3.out (Kd.C_below HRA4.out (below_step HW5.out HB.out)) HCA4.out (Kd.C_below HRA7.out (below_step HW5.out HB.out)) HCA7.out (Kd.C_below HRA12.out (below_step HW5.out HB.out)) HCA12.out HQ2.out).mono ?_
            rintro e w2 ⟨rfl, hb⟩
            refine ⟨_, rfl, ?_⟩
            refine hK.out _ _ ⟨(by rw [ha.out]; exact putSel_upk 40 hb_ rfl rfl rfl), below_step HB.out hb⟩
          refine steps_cons ?_ ?_
          · rintro b a w' ⟨ha, Q_HB⟩ hb_ hon hoff
            refine ⟨_, rfl, fun K hK => ?_⟩
            have e73 : a.tmps[73]? = some (.int .i64 q) := by rw [ha]; exact putSel_on (e := (39, 73, .int .i64 q)) 36 rfl rfl (hon 39 (by kernel_rfl)) rfl
            have e77 : a.tmps[77]? = some (.int .i64 q) := by rw [ha]; exact putSel_on (e := (43, 77, .int .i64 q)) 40 rfl rfl (hon 43 (by kernel_rfl)) rfl
            have e69 : a.tmps[69]? = some (.bool true) := by rw [ha]; exact putSel_on (e := (35, 69, .bool true)) 32 rfl rfl (hon 35 (by kernel_rfl)) rfl
            replace ha := Aside0.mk ha
            have HB := Aside0.mk Q_HB
            refine value_ (w1 := w') (v := .bool true) (wanted_on rfl rfl rfl (e69.trans (by first | rfl | (simp [*]; done)))) rfl ?_ ?_
            · go_simp
              (try simp only [i64_w])
              try rfl
            refine hK.out _ _ ⟨(by rw [ha.out]; exact putSel_upk 41 hb_ rfl rfl rfl), Q_HB⟩
          refine steps_cons ?_ ?_
          · rintro b a w' ⟨ha, Q_HB⟩ hb_ hon hoff
            refine ⟨_, rfl, fun K hK => ?_⟩
            have e69 : a.tmps[69]? = some (.bool true) := by rw [ha]; exact putSel_on (e := (35, 69, .bool true)) 32 rfl rfl (hon 35 (by kernel_rfl)) rfl
            have e78 : a.tmps[78]? = some (.bool true) := by rw [ha]; exact putSel_on (e := (44, 78, .bool true)) 41 rfl rfl (hon 44 (by kernel_rfl)) rfl
            replace ha := Aside0.mk ha
            have HB := Aside0.mk Q_HB
            refine value_ (w1 := w') (v := .bool true) (by rfl) rfl ?_ ?_
            · go_simp
              (try simp only [i64_w])
              try rfl
            refine hK.out _ _ ⟨(by rw [ha.out]; exact putSel_upk 42 hb_ rfl rfl rfl), Q_HB⟩
          refine steps_cons ?_ ?_
          · rintro b a w' ⟨ha, Q_HB⟩ hb_ hon hoff
            refine ⟨_, rfl, fun K hK => ?_⟩
            have e79 : a.tmps[79]? = some (.bool true) := by rw [ha]; exact putSel_on (e := (45, 79, .bool true)) 42 rfl rfl (hon 45 (by kernel_rfl)) rfl
            replace ha := Aside0.mk ha
            have HB := Aside0.mk Q_HB
            refine value_ (w1 := w') (v := .bool true) (by rfl) rfl ?_ ?_
            · go_simp
              (try simp only [i64_w])
              try rfl
            refine hK.out _ _ ⟨(by rw [ha.out]; exact putSel_upk 43 hb_ rfl rfl rfl), Q_HB⟩
          exact steps_nil
        rintro b a w11 hall ⟨ha, Q_HB⟩
        clear HB
        have hb2_ := hall 2 (by kernel_rfl)
        have hb3_ := hall 3 (by kernel_rfl)
        have hb5_ := hall 5 (by kernel_rfl)
        have hb6_ := hall 6 (by kernel_rfl)
        have hb7_ := hall 7 (by kernel_rfl)
        have hb8_ := hall 8 (by kernel_rfl)
        have hb9_ := hall 9 (by kernel_rfl)
        have hb10_ := hall 10 (by kernel_rfl)
        have hb11_ := hall 11 (by kernel_rfl)
        have hb12_ := hall 12 (by kernel_rfl)
        have hb13_ := hall 13 (by kernel_rfl)
        have hb14_ := hall 14 (by kernel_rfl)
        have hb15_ := hall 15 (by kernel_rfl)
        have hb16_ := hall 16 (by kernel_rfl)
        have hb17_ := hall 17 (by kernel_rfl)
        have hb18_ := hall 18 (by kernel_rfl)
        have hb19_ := hall 19 (by kernel_rfl)
        have hb20_ := hall 20 (by kernel_rfl)
        have hb21_ := hall 21 (by kernel_rfl)
        have hb22_ := hall 22 (by kernel_rfl)
        have hb23_ := hall 23 (by kernel_rfl)
        have hb24_ := hall 24 (by kernel_rfl)
        have hb25_ := hall 25 (by kernel_rfl)
        have hb26_ := hall 26 (by kernel_rfl)
        have hb27_ := hall 27 (by kernel_rfl)
        have hb28_ := hall 28 (by kernel_rfl)
        have hb29_ := hall 29 (by kernel_rfl)
        have hb30_ := hall 30 (by kernel_rfl)
        have hb31_ := hall 31 (by kernel_rfl)
        have hb32_ := hall 32 (by kernel_rfl)
        have hb33_ := hall 33 (by kernel_rfl)
        have hb34_ := hall 34 (by kernel_rfl)
        have hb35_ := hall 35 (by kernel_rfl)
        have hb36_ := hall 36 (by kernel_rfl)
        have hb37_ := hall 37 (by kernel_rfl)
        have hb38_ := hall 38 (by kernel_rfl)
        have hb39_ := hall 39 (by kernel_rfl)
        have hb40_ := hall 40 (by kernel_rfl)
        have hb41_ := hall 41 (by kernel_rfl)
        have hb42_ := hall 42 (by kernel_rfl)
        have hb43_ := hall 43 (by kernel_rfl)
        have hb44_ := hall 44 (by kernel_rfl)
        have hb45_ := hall 45 (by kernel_rfl)
        have hb46_ := hall 46 (by kernel_rfl)
        subst ha
        simp only [putSel, hb2_, hb3_, hb5_, hb6_, hb7_, hb8_, hb9_, hb10_, hb11_, hb12_, hb13_, hb14_, hb15_, hb16_, hb17_, hb18_, hb19_, hb20_, hb21_, hb22_, hb23_, hb24_, hb25_, hb26_, hb27_, hb28_, hb29_, hb30_, hb31_, hb32_, hb33_, hb34_, hb35_, hb36_, hb37_, hb38_, hb39_, hb40_, hb41_, hb42_, hb43_, hb44_, hb45_, hb46_, if_true, Act.put, List.setIfInBounds_toArray, List.set_cons_zero, List.set_cons_succ]
        have HB := Aside0.mk Q_HB
        clear Q_HB
        clear hall hb2_ hb3_ hb5_ hb6_ hb7_ hb8_ hb9_ hb10_ hb11_ hb12_ hb13_ hb14_ hb15_ hb16_ hb17_ hb18_ hb19_ hb20_ hb21_ hb22_ hb23_ hb24_ hb25_ hb26_ hb27_ hb28_ hb29_ hb30_ hb31_ hb32_ hb33_ hb34_ hb35_ hb36_ hb37_ hb38_ hb39_ hb40_ hb41_ hb42_ hb43_ hb44_ hb45_ hb46_
        go_wp2
        go_ret
        exact ⟨rfl, below_step HW.out (below_step HW5.out HB.out)⟩
      · have hge : decide (s11 ≤ r) = true := decide_eq_true hmin
        clear hmin
        refine start_ (n := 47) (S := fun w' => True) (ds := []) #[false, false, false, false, false, false, false, false, false, false, false, false, false, false, false, false, false, false, false, false, false, false, false, false, false, false, false, false, false, false, false, false, false, false, false, false, false, false, false, false, false, false, false, false, false, false, false] (by kernel_rfl) rfl rfl trivial (fun hHeld => ?_)
        refine with_tabW laws_FnWorldTexts.tab11 laws_FnWorldTexts.bits11 (fun HT_ HW_ => ?_)
        have HBo := HB
        clear HB
        have HB : Aside0 (Below wt5.heap.size wt5 w10.drew) := Aside0.mk (below_drew1 (by exact HBo.out))
        clear HBo
        refine pure_ (i := 0) (N := some 34) (v := ?_) (a' := ?_) #[true, false, false, false, false, false, false, false, false, false, false, false, false, false, false, false, false, false, false, false, false, false, false, false, false, false, false, false, false, false, false, false, false, false, false, false, false, false, false, false, false, false, false, false, false, false, false] rfl rfl (any_of HT_.out (by kernel_rfl)) (fun _ _ _ h => h) (Or.inl ⟨by rfl, ?_⟩) ?_ ?_
        rotate_left
        · intro w'
          go_simp
          with_reducible rfl
        rotate_left
        · simp only [Act.put, List.setIfInBounds_toArray, List.set_cons_zero, List.set_cons_succ, i64_w, i32_w]
          rfl
        refine pure_ (i := 1) (N := some 35) (v := ?_) (a' := ?_) #[true, true, false, false, false, false, false, false, false, false, false, false, false, false, false, false, false, false, false, false, false, false, false, false, false, false, false, false, false, false, false, false, false, false, false, false, false, false, false, false, false, false, false, false, false, false, false] rfl rfl (any_of HT_.out (by kernel_rfl)) (fun _ _ _ h => h) (Or.inl ⟨by rfl, ?_⟩) ?_ ?_
        rotate_left
        · intro w'
          go_simp
          with_reducible rfl
        rotate_left
        · simp only [Act.put, List.setIfInBounds_toArray, List.set_cons_zero, List.set_cons_succ, i64_w, i32_w]
          rfl
        refine pure_ (i := 4) (N := some 38) (v := ?_) (a' := ?_) #[true, true, false, false, true, false, false, false, false, false, false, false, false, false, false, false, false, false, false, false, false, false, false, false, false, false, false, false, false, false, false, false, false, false, false, false, false, false, false, false, false, false, false, false, false, false, false] rfl rfl (any_of HT_.out (by kernel_rfl)) (fun _ _ _ h => h) (Or.inl ⟨by rfl, ?_⟩) ?_ ?_
        rotate_left
        · intro w'
          go_simp
          with_reducible rfl
        rotate_left
        · simp only [Act.put, List.setIfInBounds_toArray, List.set_cons_zero, List.set_cons_succ, i64_w, i32_w]
          rfl
        refine inv_at [2, 3, 5, 6, 7, 8, 9, 10, 11, 12, 13, 14, 15, 16, 17, 18, 19, 20, 21, 22, 23, 24, 25, 26, 27, 28, 29, 30, 31, 32, 33, 34, 35, 36, 37, 38, 39, 40, 41, 42, 43, 44, 45, 46] (fun a0_ b a w' => a = putSel a0_ b [(2, 36, .agg #[.int .i64 s1, .int .i64 s2, .int .i64 s3, .slice B3 s4.length Bc3, .slice B4 s5.length Bc4, .int .i64 s6, .int .i64 s7, .slice B7 s8.length Bc7, .int .i64 s9, .int .i64 s10, .int .i64 s11, .int .i64 s12, .slice B12 s13.length Bc12, .int .i64 s14, .int .i64 s15, .int .i64 s16]), (3, 37, .string T), (5, 39, .bool true), (6, 40, .bool true), (7, 41, .bool true), (8, 42, .int .i64 r), (9, 43, .agg #[.int .i64 s1, .int .i64 s2, .int .i64 s3, .slice A3 s4.length Ac3, .slice A4 s5.length Ac4, .int .i64 s6, .int .i64 s7, .slice A7 s8.length Ac7, .int .i64 s9, .int .i64 s10, .int .i64 s11, .int .i64 s12, .slice A12 s13.length Ac12, .int .i64 s14, .int .i64 s15, .int .i64 s16]), (10, 44, .slice A0 l0.length c0), (11, 45, .int .i64 t), (12, 46, .int .i64 r), (13, 47, .bool true), (14, 48, .bool true), (15, 49, .bool true), (16, 50, .int .i64 r), (17, 51, .pointer (some ⟨g3, 0, none⟩)), (18, 52, .pointer (some ⟨g3, 4, none⟩)), (19, 53, .pointer (some ⟨g3, 11, none⟩)), (20, 54, .int .i64 s12), (21, 55, .bool true), (22, 56, .bool true), (23, 57, .bool true), (24, 58, .int .i64 r), (25, 59, .pointer (some ⟨g3, 0, none⟩)), (26, 60, .pointer (some ⟨g3, 4, none⟩)), (27, 61, .pointer (some ⟨g3, 10, none⟩)), (28, 62, .int .i64 s11), (29, 63, .bool true), (30, 64, .bool true), (31, 65, undef), (32, 66, undef), (33, 67, .bool true), (34, 68, .bool true), (35, 69, .bool true), (36, 70, .agg #[.int .i64 s1, .int .i64 s2, .int .i64 s3, .slice B3 s4.length Bc3, .slice B4 s5.length Bc4, .int .i64 s6, .int .i64 s7, .slice B7 s8.length Bc7, .int .i64 s9, .int .i64 s10, .int .i64 s11, .int .i64 s12, .slice B12 s13.length Bc12, .int .i64 s14, .int .i64 s15, .int .i64 s16]), (37, 71, .slice A0 l0.length c0), (38, 72, .int .i64 t), (39, 73, .int .i64 q), (40, 74, .agg #[.int .i64 s1, .int .i64 s2, .int .i64 s3, .slice A3 s4.length Ac3, .slice A4 s5.length Ac4, .int .i64 s6, .int .i64 s7, .slice A7 s8.length Ac7, .int .i64 s9, .int .i64 s10, .int .i64 s11, .int .i64 s12, .slice A12 s13.length Ac12, .int .i64 s14, .int .i64 s15, .int .i64 s16]), (41, 75, .slice A0 l0.length c0), (42, 76, .int .i64 t), (43, 77, .int .i64 q), (44, 78, .bool true), (45, 79, .bool true), (46, 2, .bool true)] ∧ (Below wt5.heap.size wt5 w')) HT_.out HW_.out (by kernel_rfl) (by kernel_rfl) ?_ ?_ ?_
        · exact ⟨by simp only [putSel, Bool.false_eq_true, if_false], HB.out⟩
        · skip
          clear HB
          refine steps_cons ?_ ?_
          · rintro b a w' ⟨ha, Q_HB⟩ hb_ hon hoff
            refine ⟨_, rfl, fun K hK => ?_⟩
            have e5 : a.tmps[5]? = some (.pointer (some ⟨g5, 0, none⟩)) := by rw [ha]; exact (putSel_off rfl).trans rfl
            have e35 : a.tmps[35]? = some (.bool true) := by rw [ha]; exact (putSel_off rfl).trans rfl
            replace ha := Aside0.mk ha
            have HB := Aside0.mk Q_HB
            refine value_ (w1 := w') (v := .agg #[.int .i64 s1, .int .i64 s2, .int .i64 s3, .slice B3 s4.length Bc3, .slice B4 s5.length Bc4, .int .i64 s6, .int .i64 s7, .slice B7 s8.length Bc7, .int .i64 s9, .int .i64 s10, .int .i64 s11, .int .i64 s12, .slice B12 s13.length Bc12, .int .i64 s14, .int .i64 s15, .int .i64 s16]) (wanted_on rfl rfl rfl (e35.trans (by first | rfl | (simp [*]; done)))) rfl (loadAll 36 (.tmp 5) rfl g5 (by simp only [Act.eval, Array.getD_eq_getD_getElem?, e5, Option.getD_some]) 36 _ _ (blk_below BK5.out HB.out) Tryz.underlying36 rfl (by kernel_rfl)) ?_
            refine hK.out _ _ ⟨(by rw [ha.out]; exact putSel_upk 0 hb_ rfl rfl rfl), HB.out⟩
          refine steps_cons ?_ ?_
          · rintro b a w' ⟨ha, Q_HB⟩ hb_ hon hoff
            refine ⟨_, rfl, fun K hK => ?_⟩
            have e36 : a.tmps[36]? = some (.agg #[.int .i64 s1, .int .i64 s2, .int .i64 s3, .slice B3 s4.length Bc3, .slice B4 s5.length Bc4, .int .i64 s6, .int .i64 s7, .slice B7 s8.length Bc7, .int .i64 s9, .int .i64 s10, .int .i64 s11, .int .i64 s12, .slice B12 s13.length Bc12, .int .i64 s14, .int .i64 s15, .int .i64 s16]) := by rw [ha]; exact putSel_on (e := (2, 36, .agg #[.int .i64 s1, .int .i64 s2, .int .i64 s3, .slice B3 s4.length Bc3, .slice B4 s5.length Bc4, .int .i64 s6, .int .i64 s7, .slice B7 s8.length Bc7, .int .i64 s9, .int .i64 s10, .int .i64 s11, .int .i64 s12, .slice B12 s13.length Bc12, .int .i64 s14, .int .i64 s15, .int .i64 s16])) 0 rfl rfl (hon 2 (by kernel_rfl)) rfl
            have e35 : a.tmps[35]? = some (.bool true) := by rw [ha]; exact (putSel_off rfl).trans rfl
            replace ha := Aside0.mk ha
            have HB := Aside0.mk Q_HB
            refine goes_ Tryz.func6 (by kernel_rfl) rfl #[.agg #[.int .i64 s1, .int .i64 s2, .int .i64 s3, .slice B3 s4.length Bc3, .slice B4 s5.length Bc4, .int .i64 s6, .int .i64 s7, .slice B7 s8.length Bc7, .int .i64 s9, .int .i64 s10, .int .i64 s11, .int .i64 s12, .slice B12 s13.length Bc12, .int .i64 s14, .int .i64 s15, .int .i64 s16]] (wanted_on rfl rfl rfl (e35.trans (by first | rfl | (simp [*]; done)))) rfl rfl (by first | (simp only [List.map_toArray, List.map_cons, List.map_nil, Act.eval, Array.getD_eq_getD_getElem?, Option.getD_some, e36, e35]; done) | (simp only [List.map_toArray, List.map_cons, List.map_nil, Act.eval, Array.getD_eq_getD_getElem?, Option.getD_some, e36, e35]; rfl)) ?_
            refine (impl_WorldText.calls kk s1 s2 s3 B3 Bc3 s4 B4 Bc4 s5 s6 s7 B7 Bc7 s8 s9 s10 s11 s12 B12 Bc12 s13 s14 s15 s16 T _ (Kd.C_below HRB3.out HB.out) HCB3.out (Kd.C_below HRB4.out HB.out) HCB4.out (Kd.C_below HRB7.out HB.out) HCB7.out (Kd.C_below HRB12.out HB.out) HCB12.out HT1.out (HTs.out.on (below_step HW5.out HB.out))).mono ?_
            rintro e w2 ⟨rfl, hb⟩
            refine ⟨_, rfl, ?_⟩
            refine hK.out _ _ ⟨(by rw [ha.out]; exact putSel_upk 1 hb_ rfl rfl rfl), below_step HB.out hb⟩
          refine steps_cons ?_ ?_
          · rintro b a w' ⟨ha, Q_HB⟩ hb_ hon hoff
            refine ⟨_, rfl, fun K hK => ?_⟩
            have e37 : a.tmps[37]? = some (.string T) := by rw [ha]; exact putSel_on (e := (3, 37, .string T)) 1 rfl rfl (hon 3 (by kernel_rfl)) rfl
            have e38 : a.tmps[38]? = some (.string T) := by rw [ha]; exact (putSel_off rfl).trans rfl
            have e35 : a.tmps[35]? = some (.bool true) := by rw [ha]; exact (putSel_off rfl).trans rfl
            replace ha := Aside0.mk ha
            have HB := Aside0.mk Q_HB
            refine value_ (w1 := w') (v := .bool true) (wanted_on rfl rfl rfl (e35.trans (by first | rfl | (simp [*]; done)))) rfl ?_ ?_
            · go_simp
              (try simp only [i64_w])
              try rfl
            refine hK.out _ _ ⟨(by rw [ha.out]; exact putSel_upk 2 hb_ rfl rfl rfl), Q_HB⟩
          refine steps_cons ?_ ?_
          · rintro b a w' ⟨ha, Q_HB⟩ hb_ hon hoff
            refine ⟨_, rfl, fun K hK => ?_⟩
            have e35 : a.tmps[35]? = some (.bool true) := by rw [ha]; exact (putSel_off rfl).trans rfl
            have e39 : a.tmps[39]? = some (.bool true) := by rw [ha]; exact putSel_on (e := (5, 39, .bool true)) 2 rfl rfl (hon 5 (by kernel_rfl)) rfl
            replace ha := Aside0.mk ha
            have HB := Aside0.mk Q_HB
            refine value_ (w1 := w') (v := .bool true) (by rfl) rfl ?_ ?_
            · go_simp
              (try simp only [i64_w])
              try rfl
            refine hK.out _ _ ⟨(by rw [ha.out]; exact putSel_upk 3 hb_ rfl rfl rfl), Q_HB⟩
          refine steps_cons ?_ ?_
          · rintro b a w' ⟨ha, Q_HB⟩ hb_ hon hoff
            refine ⟨_, rfl, fun K hK => ?_⟩
            have e40 : a.tmps[40]? = some (.bool true) := by rw [ha]; exact putSel_on (e := (6, 40, .bool true)) 3 rfl rfl (hon 6 (by kernel_rfl)) rfl
            replace ha := Aside0.mk ha
            have HB := Aside0.mk Q_HB
            refine value_ (w1 := w') (v := .bool true) (by rfl) rfl ?_ ?_
            · go_simp
              (try simp only [i64_w])
              try rfl
            refine hK.out _ _ ⟨(by rw [ha.out]; exact putSel_upk 4 hb_ rfl rfl rfl), Q_HB⟩
          refine steps_cons ?_ ?_
          · rintro b a w' ⟨ha, Q_HB⟩ hb_ hon hoff
            refine ⟨_, rfl, fun K hK => ?_⟩
            have e7 : a.tmps[7]? = some (.int .i64 r) := by rw [ha]; exact (putSel_off rfl).trans rfl
            have e41 : a.tmps[41]? = some (.bool true) := by rw [ha]; exact putSel_on (e := (7, 41, .bool true)) 4 rfl rfl (hon 7 (by kernel_rfl)) rfl
            replace ha := Aside0.mk ha
            have HB := Aside0.mk Q_HB
            refine value_ (w1 := w') (v := .int .i64 r) (wanted_on rfl rfl rfl (e41.trans (by first | rfl | (simp [*]; done)))) rfl ?_ ?_
            · go_simp
              (try simp only [i64_w])
              try rfl
            refine hK.out _ _ ⟨(by rw [ha.out]; exact putSel_upk 5 hb_ rfl rfl rfl), Q_HB⟩
          refine steps_cons ?_ ?_
          · rintro b a w' ⟨ha, Q_HB⟩ hb_ hon hoff
            refine ⟨_, rfl, fun K hK => ?_⟩
            have e3 : a.tmps[3]? = some (.pointer (some ⟨g3, 0, none⟩)) := by rw [ha]; exact (putSel_off rfl).trans rfl
            have e41 : a.tmps[41]? = some (.bool true) := by rw [ha]; exact putSel_on (e := (7, 41, .bool true)) 4 rfl rfl (hon 7 (by kernel_rfl)) rfl
            replace ha := Aside0.mk ha
            have HB := Aside0.mk Q_HB
            refine value_ (w1 := w') (v := .agg #[.int .i64 s1, .int .i64 s2, .int .i64 s3, .slice A3 s4.length Ac3, .slice A4 s5.length Ac4, .int .i64 s6, .int .i64 s7, .slice A7 s8.length Ac7, .int .i64 s9, .int .i64 s10, .int .i64 s11, .int .i64 s12, .slice A12 s13.length Ac12, .int .i64 s14, .int .i64 s15, .int .i64 s16]) (wanted_on rfl rfl rfl (e41.trans (by first | rfl | (simp [*]; done)))) rfl (loadAll 36 (.tmp 3) rfl g3 (by simp only [Act.eval, Array.getD_eq_getD_getElem?, e3, Option.getD_some]) 36 _ _ (blk_below BK3.out (below_step HW5.out HB.out)) Tryz.underlying36 rfl (by kernel_rfl)) ?_
            refine hK.out _ _ ⟨(by rw [ha.out]; exact putSel_upk 6 hb_ rfl rfl rfl), HB.out⟩
          refine steps_cons ?_ ?_
          · rintro b a w' ⟨ha, Q_HB⟩ hb_ hon hoff
            refine ⟨_, rfl, fun K hK => ?_⟩
            have e0 : a.tmps[0]? = some (.slice A0 l0.length c0) := by rw [ha]; exact (putSel_off rfl).trans rfl
            have e41 : a.tmps[41]? = some (.bool true) := by rw [ha]; exact putSel_on (e := (7, 41, .bool true)) 4 rfl rfl (hon 7 (by kernel_rfl)) rfl
            replace ha := Aside0.mk ha
            have HB := Aside0.mk Q_HB
            refine value_ (w1 := w') (v := .slice A0 l0.length c0) (wanted_on rfl rfl rfl (e41.trans (by first | rfl | (simp [*]; done)))) rfl ?_ ?_
            · go_simp
              (try simp only [i64_w])
              try rfl
            refine hK.out _ _ ⟨(by rw [ha.out]; exact putSel_upk 7 hb_ rfl rfl rfl), Q_HB⟩
          refine steps_cons ?_ ?_
          · rintro b a w' ⟨ha, Q_HB⟩ hb_ hon hoff
            refine ⟨_, rfl, fun K hK => ?_⟩
            have e44 : a.tmps[44]? = some (.slice A0 l0.length c0) := by rw [ha]; exact putSel_on (e := (10, 44, .slice A0 l0.length c0)) 7 rfl rfl (hon 10 (by kernel_rfl)) rfl
            have e41 : a.tmps[41]? = some (.bool true) := by rw [ha]; exact putSel_on (e := (7, 41, .bool true)) 4 rfl rfl (hon 7 (by kernel_rfl)) rfl
            replace ha := Aside0.mk ha
            have HB := Aside0.mk Q_HB
            refine goes_ Tryz.func11 (by kernel_rfl) rfl #[.slice A0 l0.length c0, .int .i64 0] (wanted_on rfl rfl rfl (e41.trans (by first | rfl | (simp [*]; done)))) rfl rfl (by first | (simp only [List.map_toArray, List.map_cons, List.map_nil, Act.eval, Array.getD_eq_getD_getElem?, Option.getD_some, e44, e41]; done) | (simp only [List.map_toArray, List.map_cons, List.map_nil, Act.eval, Array.getD_eq_getD_getElem?, Option.getD_some, e44, e41]; rfl)) ?_
            refine (laws_at.calls A0 c0 l0 0 t _ (Kd.C_below HR0.out (below_step HW.out (below_step HW5.out HB.out))) HC0.out HAT.out).mono ?_
            rintro e w2 ⟨rfl, ⟨nd, rfl⟩⟩
            refine ⟨_, rfl, ?_⟩
            refine hK.out _ _ ⟨(by rw [ha.out]; exact putSel_upk 8 hb_ rfl rfl rfl), pw_below_drewN HB.out nd⟩
          refine steps_cons ?_ ?_
          · rintro b a w' ⟨ha, Q_HB⟩ hb_ hon hoff
            refine ⟨_, rfl, fun K hK => ?_⟩
            have e43 : a.tmps[43]? = some (.agg #[.int .i64 s1, .int .i64 s2, .int .i64 s3, .slice A3 s4.length Ac3, .slice A4 s5.length Ac4, .int .i64 s6, .int .i64 s7, .slice A7 s8.length Ac7, .int .i64 s9, .int .i64 s10, .int .i64 s11, .int .i64 s12, .slice A12 s13.length Ac12, .int .i64 s14, .int .i64 s15, .int .i64 s16]) := by rw [ha]; exact putSel_on (e := (9, 43, .agg #[.int .i64 s1, .int .i64 s2, .int .i64 s3, .slice A3 s4.length Ac3, .slice A4 s5.length Ac4, .int .i64 s6, .int .i64 s7, .slice A7 s8.length Ac7, .int .i64 s9, .int .i64 s10, .int .i64 s11, .int .i64 s12, .slice A12 s13.length Ac12, .int .i64 s14, .int .i64 s15, .int .i64 s16])) 6 rfl rfl (hon 9 (by kernel_rfl)) rfl
            have e45 : a.tmps[45]? = some (.int .i64 t) := by rw [ha]; exact putSel_on (e := (11, 45, .int .i64 t)) 8 rfl rfl (hon 11 (by kernel_rfl)) rfl
            have e41 : a.tmps[41]? = some (.bool true) := by rw [ha]; exact putSel_on (e := (7, 41, .bool true)) 4 rfl rfl (hon 7 (by kernel_rfl)) rfl
            replace ha := Aside0.mk ha
            have HB := Aside0.mk Q_HB
            refine goes_ Tryz.func12 (by kernel_rfl) rfl #[.agg #[.int .i64 s1, .int .i64 s2, .int .i64 s3, .slice A3 s4.length Ac3, .slice A4 s5.length Ac4, .int .i64 s6, .int .i64 s7, .slice A7 s8.length Ac7, .int .i64 s9, .int .i64 s10, .int .i64 s11, .int .i64 s12, .slice A12 s13.length Ac12, .int .i64 s14, .int .i64 s15, .int .i64 s16], .int .i64 t] (wanted_on rfl rfl rfl (e41.trans (by first | rfl | (simp [*]; done)))) rfl rfl (by first | (simp only [List.map_toArray, List.map_cons, List.map_nil, Act.eval, Array.getD_eq_getD_getElem?, Option.getD_some, e43, e45, e41]; done) | (simp only [List.map_toArray, List.map_cons, List.map_nil, Act.eval, Array.getD_eq_getD_getElem?, Option.getD_some, e43, e45, e41]; rfl)) ?_
            refine (spec_IdealAt.calls kk s1 s2 s3 A3 Ac3 s4 A4 Ac4 s5 s6 s7 A7 Ac7 s8 s9 s10 s11 s12 A12 Ac12 s13 s14 s15 s16 t r _ (Kd.C_below HRA3.out (below_step HW5.out HB.out)) HCA3.out (Kd.C_below HRA4.out (below_step HW5.out HB.out)) HCA4.out (Kd.C_below HRA7.out (below_step HW5.out HB.out)) HCA7.out (Kd.C_below HRA12.out (below_step HW5.out HB.out)) HCA12.out HI2.out).mono ?_
            rintro e w2 ⟨rfl, hb⟩
            refine ⟨_, rfl, ?_⟩
            refine hK.out _ _ ⟨(by rw [ha.out]; exact putSel_upk 9 hb_ rfl rfl rfl), below_step HB.out hb⟩
          refine steps_cons ?_ ?_
          · rintro b a w' ⟨ha, Q_HB⟩ hb_ hon hoff
            refine ⟨_, rfl, fun K hK => ?_⟩
            have e42 : a.tmps[42]? = some (.int .i64 r) := by rw [ha]; exact putSel_on (e := (8, 42, .int .i64 r)) 5 rfl rfl (hon 8 (by kernel_rfl)) rfl
            have e46 : a.tmps[46]? = some (.int .i64 r) := by rw [ha]; exact putSel_on (e := (12, 46, .int .i64 r)) 9 rfl rfl (hon 12 (by kernel_rfl)) rfl
            have e41 : a.tmps[41]? = some (.bool true) := by rw [ha]; exact putSel_on (e := (7, 41, .bool true)) 4 rfl rfl (hon 7 (by kernel_rfl)) rfl
            replace ha := Aside0.mk ha
            have HB := Aside0.mk Q_HB
            refine value_ (w1 := w') (v := .bool true) (wanted_on rfl rfl rfl (e41.trans (by first | rfl | (simp [*]; done)))) rfl ?_ ?_
            · go_simp
              (try simp only [i64_w])
              try rfl
            refine hK.out _ _ ⟨(by rw [ha.out]; exact putSel_upk 10 hb_ rfl rfl rfl), Q_HB⟩
          refine steps_cons ?_ ?_
          · rintro b a w' ⟨ha, Q_HB⟩ hb_ hon hoff
            refine ⟨_, rfl, fun K hK => ?_⟩
            have e41 : a.tmps[41]? = some (.bool true) := by rw [ha]; exact putSel_on (e := (7, 41, .bool true)) 4 rfl rfl (hon 7 (by kernel_rfl)) rfl
            have e47 : a.tmps[47]? = some (.bool true) := by rw [ha]; exact putSel_on (e := (13, 47, .bool true)) 10 rfl rfl (hon 13 (by kernel_rfl)) rfl
            replace ha := Aside0.mk ha
            have HB := Aside0.mk Q_HB
            refine value_ (w1 := w') (v := .bool true) (by rfl) rfl ?_ ?_
            · go_simp
              (try simp only [i64_w])
              try rfl
            refine hK.out _ _ ⟨(by rw [ha.out]; exact putSel_upk 11 hb_ rfl rfl rfl), Q_HB⟩
          refine steps_cons ?_ ?_
          · rintro b a w' ⟨ha, Q_HB⟩ hb_ hon hoff
            refine ⟨_, rfl, fun K hK => ?_⟩
            have e48 : a.tmps[48]? = some (.bool true) := by rw [ha]; exact putSel_on (e := (14, 48, .bool true)) 11 rfl rfl (hon 14 (by kernel_rfl)) rfl
            replace ha := Aside0.mk ha
            have HB := Aside0.mk Q_HB
            refine value_ (w1 := w') (v := .bool true) (by rfl) rfl ?_ ?_
            · go_simp
              (try simp only [i64_w])
              try rfl
            refine hK.out _ _ ⟨(by rw [ha.out]; exact putSel_upk 12 hb_ rfl rfl rfl), Q_HB⟩
          refine steps_cons ?_ ?_
          · rintro b a w' ⟨ha, Q_HB⟩ hb_ hon hoff
            refine ⟨_, rfl, fun K hK => ?_⟩
            have e7 : a.tmps[7]? = some (.int .i64 r) := by rw [ha]; exact (putSel_off rfl).trans rfl
            have e49 : a.tmps[49]? = some (.bool true) := by rw [ha]; exact putSel_on (e := (15, 49, .bool true)) 12 rfl rfl (hon 15 (by kernel_rfl)) rfl
            replace ha := Aside0.mk ha
            have HB := Aside0.mk Q_HB
            refine value_ (w1 := w') (v := .int .i64 r) (wanted_on rfl rfl rfl (e49.trans (by first | rfl | (simp [*]; done)))) rfl ?_ ?_
            · go_simp
              (try simp only [i64_w])
              try rfl
            refine hK.out _ _ ⟨(by rw [ha.out]; exact putSel_upk 13 hb_ rfl rfl rfl), Q_HB⟩
          refine steps_cons ?_ ?_
          · rintro b a w' ⟨ha, Q_HB⟩ hb_ hon hoff
            refine ⟨_, rfl, fun K hK => ?_⟩
            have e3 : a.tmps[3]? = some (.pointer (some ⟨g3, 0, none⟩)) := by rw [ha]; exact (putSel_off rfl).trans rfl
            have e49 : a.tmps[49]? = some (.bool true) := by rw [ha]; exact putSel_on (e := (15, 49, .bool true)) 12 rfl rfl (hon 15 (by kernel_rfl)) rfl
            replace ha := Aside0.mk ha
            have HB := Aside0.mk Q_HB
            refine value_ (w1 := w') (v := .pointer (some ⟨g3, 0, none⟩)) (wanted_on rfl rfl rfl (e49.trans (by first | rfl | (simp [*]; done)))) rfl ?_ ?_
            · go_simp
              (try simp only [i64_w])
              try rfl
            refine hK.out _ _ ⟨(by rw [ha.out]; exact putSel_upk 14 hb_ rfl rfl rfl), Q_HB⟩
          refine steps_cons ?_ ?_
          · rintro b a w' ⟨ha, Q_HB⟩ hb_ hon hoff
            refine ⟨_, rfl, fun K hK => ?_⟩
            have e51 : a.tmps[51]? = some (.pointer (some ⟨g3, 0, none⟩)) := by rw [ha]; exact putSel_on (e := (17, 51, .pointer (some ⟨g3, 0, none⟩))) 14 rfl rfl (hon 17 (by kernel_rfl)) rfl
            have e49 : a.tmps[49]? = some (.bool true) := by rw [ha]; exact putSel_on (e := (15, 49, .bool true)) 12 rfl rfl (hon 15 (by kernel_rfl)) rfl
            replace ha := Aside0.mk ha
            have HB := Aside0.mk Q_HB
            refine value_ (w1 := w') (v := .pointer (some ⟨g3, 4, none⟩)) (wanted_on rfl rfl rfl (e49.trans (by first | rfl | (simp [*]; done)))) rfl ?_ ?_
            · go_simp
              (try simp only [i64_w])
              try rfl
            refine hK.out _ _ ⟨(by rw [ha.out]; exact putSel_upk 15 hb_ rfl rfl rfl), Q_HB⟩
          refine steps_cons ?_ ?_
          · rintro b a w' ⟨ha, Q_HB⟩ hb_ hon hoff
            refine ⟨_, rfl, fun K hK => ?_⟩
            have e52 : a.tmps[52]? = some (.pointer (some ⟨g3, 4, none⟩)) := by rw [ha]; exact putSel_on (e := (18, 52, .pointer (some ⟨g3, 4, none⟩))) 15 rfl rfl (hon 18 (by kernel_rfl)) rfl
            have e49 : a.tmps[49]? = some (.bool true) := by rw [ha]; exact putSel_on (e := (15, 49, .bool true)) 12 rfl rfl (hon 15 (by kernel_rfl)) rfl
            replace ha := Aside0.mk ha
            have HB := Aside0.mk Q_HB
            refine value_ (w1 := w') (v := .pointer (some ⟨g3, 11, none⟩)) (wanted_on rfl rfl rfl (e49.trans (by first | rfl | (simp [*]; done)))) rfl ?_ ?_
            · go_simp
              (try simp only [i64_w])
              try rfl
            refine hK.out _ _ ⟨(by rw [ha.out]; exact putSel_upk 16 hb_ rfl rfl rfl), Q_HB⟩
          refine steps_cons ?_ ?_
          · rintro b a w' ⟨ha, Q_HB⟩ hb_ hon hoff
            refine ⟨_, rfl, fun K hK => ?_⟩
            have e53 : a.tmps[53]? = some (.pointer (some ⟨g3, 11, none⟩)) := by rw [ha]; exact putSel_on (e := (19, 53, .pointer (some ⟨g3, 11, none⟩))) 16 rfl rfl (hon 19 (by kernel_rfl)) rfl
            have e49 : a.tmps[49]? = some (.bool true) := by rw [ha]; exact putSel_on (e := (15, 49, .bool true)) 12 rfl rfl (hon 15 (by kernel_rfl)) rfl
            replace ha := Aside0.mk ha
            have HB := Aside0.mk Q_HB
            have hs_ : w'.cell? ⟨g3, 11, none⟩ = some (.int .i64 s12) := (blk_cell (blk_below BK3.out (below_step HW5.out HB.out)) 11).trans rfl
            refine value_ (w1 := w') (v := .int .i64 s12) (wanted_on rfl rfl rfl (e49.trans (by first | rfl | (simp [*]; done)))) rfl ?_ ?_
            · go_simp
              (try simp only [i64_w])
              try rfl
            refine hK.out _ _ ⟨(by rw [ha.out]; exact putSel_upk 17 hb_ rfl rfl rfl), Q_HB⟩
          refine steps_cons ?_ ?_
          · rintro b a w' ⟨ha, Q_HB⟩ hb_ hon hoff
            refine ⟨_, rfl, fun K hK => ?_⟩
            have e50 : a.tmps[50]? = some (.int .i64 r) := by rw [ha]; exact putSel_on (e := (16, 50, .int .i64 r)) 13 rfl rfl (hon 16 (by kernel_rfl)) rfl
            have e54 : a.tmps[54]? = some (.int .i64 s12) := by rw [ha]; exact putSel_on (e := (20, 54, .int .i64 s12)) 17 rfl rfl (hon 20 (by kernel_rfl)) rfl
            have e49 : a.tmps[49]? = some (.bool true) := by rw [ha]; exact putSel_on (e := (15, 49, .bool true)) 12 rfl rfl (hon 15 (by kernel_rfl)) rfl
            replace ha := Aside0.mk ha
            have HB := Aside0.mk Q_HB
            refine value_ (w1 := w') (v := .bool true) (wanted_on rfl rfl rfl (e49.trans (by first | rfl | (simp [*]; done)))) rfl ?_ ?_
            · go_simp
              (try simp only [i64_w])
              try rfl
            refine hK.out _ _ ⟨(by rw [ha.out]; exact putSel_upk 18 hb_ rfl rfl rfl), Q_HB⟩
          refine steps_cons ?_ ?_
          · rintro b a w' ⟨ha, Q_HB⟩ hb_ hon hoff
            refine ⟨_, rfl, fun K hK => ?_⟩
            have e49 : a.tmps[49]? = some (.bool true) := by rw [ha]; exact putSel_on (e := (15, 49, .bool true)) 12 rfl rfl (hon 15 (by kernel_rfl)) rfl
            have e55 : a.tmps[55]? = some (.bool true) := by rw [ha]; exact putSel_on (e := (21, 55, .bool true)) 18 rfl rfl (hon 21 (by kernel_rfl)) rfl
            replace ha := Aside0.mk ha
            have HB := Aside0.mk Q_HB
            refine value_ (w1 := w') (v := .bool true) (by rfl) rfl ?_ ?_
            · go_simp
              (try simp only [i64_w])
              try rfl
            refine hK.out _ _ ⟨(by rw [ha.out]; exact putSel_upk 19 hb_ rfl rfl rfl), Q_HB⟩
          refine steps_cons ?_ ?_
          · rintro b a w' ⟨ha, Q_HB⟩ hb_ hon hoff
            refine ⟨_, rfl, fun K hK => ?_⟩
            have e56 : a.tmps[56]? = some (.bool true) := by rw [ha]; exact putSel_on (e := (22, 56, .bool true)) 19 rfl rfl (hon 22 (by kernel_rfl)) rfl
            replace ha := Aside0.mk ha
            have HB := Aside0.mk Q_HB
            refine value_ (w1 := w') (v := .bool true) (by rfl) rfl ?_ ?_
            · go_simp
              (try simp only [i64_w])
              try rfl
            refine hK.out _ _ ⟨(by rw [ha.out]; exact putSel_upk 20 hb_ rfl rfl rfl), Q_HB⟩
          refine steps_cons ?_ ?_
          · rintro b a w' ⟨ha, Q_HB⟩ hb_ hon hoff
            refine ⟨_, rfl, fun K hK => ?_⟩
            have e7 : a.tmps[7]? = some (.int .i64 r) := by rw [ha]; exact (putSel_off rfl).trans rfl
            have e57 : a.tmps[57]? = some (.bool true) := by rw [ha]; exact putSel_on (e := (23, 57, .bool true)) 20 rfl rfl (hon 23 (by kernel_rfl)) rfl
            replace ha := Aside0.mk ha
            have HB := Aside0.mk Q_HB
            refine value_ (w1 := w') (v := .int .i64 r) (wanted_on rfl rfl rfl (e57.trans (by first | rfl | (simp [*]; done)))) rfl ?_ ?_
            · go_simp
              (try simp only [i64_w])
              try rfl
            refine hK.out _ _ ⟨(by rw [ha.out]; exact putSel_upk 21 hb_ rfl rfl rfl), Q_HB⟩
          refine steps_cons ?_ ?_
          · rintro b a w' ⟨ha, Q_HB⟩ hb_ hon hoff
            refine ⟨_, rfl, fun K hK => ?_⟩
            have e3 : a.tmps[3]? = some (.pointer (some ⟨g3, 0, none⟩)) := by rw [ha]; exact (putSel_off rfl).trans rfl
            have e57 : a.tmps[57]? = some (.bool true) := by rw [ha]; exact putSel_on (e := (23, 57, .bool true)) 20 rfl rfl (hon 23 (by kernel_rfl)) rfl
            replace ha := Aside0.mk ha
            have HB := Aside0.mk Q_HB
            refine value_ (w1 := w') (v := .pointer (some ⟨g3, 0, none⟩)) (wanted_on rfl rfl rfl (e57.trans (by first | rfl | (simp [*]; done)))) rfl ?_ ?_
            · go_simp
              (try simp only [i64_w])
              try rfl
            refine hK.out _ _ ⟨(by rw [ha.out]; exact putSel_upk 22 hb_ rfl rfl rfl), Q_HB⟩
          refine steps_cons ?_ ?_
          · rintro b a w' ⟨ha, Q_HB⟩ hb_ hon hoff
            refine ⟨_, rfl, fun K hK => ?_⟩
            have e59 : a.tmps[59]? = some (.pointer (some ⟨g3, 0, none⟩)) := by rw [ha]; exact putSel_on (e := (25, 59, .pointer (some ⟨g3, 0, none⟩))) 22 rfl rfl (hon 25 (by kernel_rfl)) rfl
            have e57 : a.tmps[57]? = some (.bool true) := by rw [ha]; exact putSel_on (e := (23, 57, .bool true)) 20 rfl rfl (hon 23 (by kernel_rfl)) rfl
            replace ha := Aside0.mk ha
            have HB := Aside0.mk Q_HB
            refine value_ (w1 := w') (v := .pointer (some ⟨g3, 4, none⟩)) (wanted_on rfl rfl rfl (e57.trans (by first | rfl | (simp [*]; done)))) rfl ?_ ?_
            · go_simp
              (try simp only [i64_w])
              try rfl
            refine hK.out _ _ ⟨(by rw [ha.out]; exact putSel_upk 23 hb_ rfl rfl rfl), Q_HB⟩
          refine steps_cons ?_ ?_
          · rintro b a w' ⟨ha, Q_HB⟩ hb_ hon hoff
            refine ⟨_, rfl, fun K hK => ?_⟩
            have e60 : a.tmps[60]? = some (.pointer (some ⟨g3, 4, none⟩)) := by rw [ha]; exact putSel_on (e := (26, 60, .pointer (some ⟨g3, 4, none⟩))) 23 rfl rfl (hon 26 (by kernel_rfl)) rfl
            have e57 : a.tmps[57]? = some (.bool true) := by rw [ha]; exact putSel_on (e := (23, 57, .bool true)) 20 rfl rfl (hon 23 (by kernel_rfl)) rfl
            replace ha := Aside0.mk ha
            have HB := Aside0.mk Q_HB
            refine value_ (w1 := w') (v := .pointer (some ⟨g3, 10, none⟩)) (wanted_on rfl rfl rfl (e57.trans (by first | rfl | (simp [*]; done)))) rfl ?_ ?_
            · go_simp
              (try simp only [i64_w])
              try rfl
            refine hK.out _ _ ⟨(by rw [ha.out]; exact putSel_upk 24 hb_ rfl rfl rfl), Q_HB⟩
          refine steps_cons ?_ ?_
          · rintro b a w' ⟨ha, Q_HB⟩ hb_ hon hoff
            refine ⟨_, rfl, fun K hK => ?_⟩
            have e61 : a.tmps[61]? = some (.pointer (some ⟨g3, 10, none⟩)) := by rw [ha]; exact putSel_on (e := (27, 61, .pointer (some ⟨g3, 10, none⟩))) 24 rfl rfl (hon 27 (by kernel_rfl)) rfl
            have e57 : a.tmps[57]? = some (.bool true) := by rw [ha]; exact putSel_on (e := (23, 57, .bool true)) 20 rfl rfl (hon 23 (by kernel_rfl)) rfl
            replace ha := Aside0.mk ha
            have HB := Aside0.mk Q_HB
            have hs_ : w'.cell? ⟨g3, 10, none⟩ = some (.int .i64 s11) := (blk_cell (blk_below BK3.out (below_step HW5.out HB.out)) 10).trans rfl
            refine value_ (w1 := w') (v := .int .i64 s11) (wanted_on rfl rfl rfl (e57.trans (by first | rfl | (simp [*]; done)))) rfl ?_ ?_
            · go_simp
              (try simp only [i64_w])
              try rfl
            refine hK.out _ _ ⟨(by rw [ha.out]; exact putSel_upk 25 hb_ rfl rfl rfl), Q_HB⟩
          refine steps_cons ?_ ?_
          · rintro b a w' ⟨ha, Q_HB⟩ hb_ hon hoff
            refine ⟨_, rfl, fun K hK => ?_⟩
            have e58 : a.tmps[58]? = some (.int .i64 r) := by rw [ha]; exact putSel_on (e := (24, 58, .int .i64 r)) 21 rfl rfl (hon 24 (by kernel_rfl)) rfl
            have e62 : a.tmps[62]? = some (.int .i64 s11) := by rw [ha]; exact putSel_on (e := (28, 62, .int .i64 s11)) 25 rfl rfl (hon 28 (by kernel_rfl)) rfl
            have e57 : a.tmps[57]? = some (.bool true) := by rw [ha]; exact putSel_on (e := (23, 57, .bool true)) 20 rfl rfl (hon 23 (by kernel_rfl)) rfl
            replace ha := Aside0.mk ha
            have HB := Aside0.mk Q_HB
            refine value_ (w1 := w') (v := .bool true) (wanted_on rfl rfl rfl (e57.trans (by first | rfl | (simp [*]; done)))) rfl ?_ ?_
            · go_simp
              (try simp only [i64_w])
              try rfl
            refine hK.out _ _ ⟨(by rw [ha.out]; exact putSel_upk 26 hb_ rfl rfl rfl), Q_HB⟩
          refine steps_cons ?_ ?_
          · rintro b a w' ⟨ha, Q_HB⟩ hb_ hon hoff
            refine ⟨_, rfl, fun K hK => ?_⟩
            have e63 : a.tmps[63]? = some (.bool true) := by rw [ha]; exact putSel_on (e := (29, 63, .bool true)) 26 rfl rfl (hon 29 (by kernel_rfl)) rfl
            have e57 : a.tmps[57]? = some (.bool true) := by rw [ha]; exact putSel_on (e := (23, 57, .bool true)) 20 rfl rfl (hon 23 (by kernel_rfl)) rfl
            replace ha := Aside0.mk ha
            have HB := Aside0.mk Q_HB
            refine value_ (w1 := w') (v := .bool true) (wanted_on rfl rfl rfl (e57.trans (by first | rfl | (simp [*]; done)))) rfl ?_ ?_
            · go_simp
              (try simp only [i64_w])
              try rfl
            refine hK.out _ _ ⟨(by rw [ha.out]; exact putSel_upk 27 hb_ rfl rfl rfl), Q_HB⟩
          refine steps_cons ?_ ?_
          · rintro b a w' ⟨ha, Q_HB⟩ hb_ hon hoff
            refine ⟨_, rfl, fun K hK => ?_⟩
            have e64 : a.tmps[64]? = some (.bool true) := by rw [ha]; exact putSel_on (e := (30, 64, .bool true)) 27 rfl rfl (hon 30 (by kernel_rfl)) rfl
            replace ha := Aside0.mk ha
            have HB := Aside0.mk Q_HB
            refine off_ (wanted_off rfl rfl rfl (e64.trans (by first | rfl | (simp [*]; done)))) ?_
            refine hK.out _ _ ⟨(by rw [ha.out]; exact putSel_upk 28 hb_ rfl rfl rfl), Q_HB⟩
          refine steps_cons ?_ ?_
          · rintro b a w' ⟨ha, Q_HB⟩ hb_ hon hoff
            refine ⟨_, rfl, fun K hK => ?_⟩
            have e64 : a.tmps[64]? = some (.bool true) := by rw [ha]; exact putSel_on (e := (30, 64, .bool true)) 27 rfl rfl (hon 30 (by kernel_rfl)) rfl
            replace ha := Aside0.mk ha
            have HB := Aside0.mk Q_HB
            refine off_ (wanted_off rfl rfl rfl (e64.trans (by first | rfl | (simp [*]; done)))) ?_
            refine hK.out _ _ ⟨(by rw [ha.out]; exact putSel_upk 29 hb_ rfl rfl rfl), Q_HB⟩
          refine steps_cons ?_ ?_
          · rintro b a w' ⟨ha, Q_HB⟩ hb_ hon hoff
            refine ⟨_, rfl, fun K hK => ?_⟩
            have e64 : a.tmps[64]? = some (.bool true) := by rw [ha]; exact putSel_on (e := (30, 64, .bool true)) 27 rfl rfl (hon 30 (by kernel_rfl)) rfl
            have e66 : a.tmps[66]? = some (undef) := by rw [ha]; exact putSel_on (e := (32, 66, undef)) 29 rfl rfl (hon 32 (by kernel_rfl)) rfl
            have e57 : a.tmps[57]? = some (.bool true) := by rw [ha]; exact putSel_on (e := (23, 57, .bool true)) 20 rfl rfl (hon 23 (by kernel_rfl)) rfl
            replace ha := Aside0.mk ha
            have HB := Aside0.mk Q_HB
            refine value_ (w1 := w') (v := .bool true) (wanted_on rfl rfl rfl (e57.trans (by first | rfl | (simp [*]; done)))) rfl ?_ ?_
            · go_simp
              (try simp only [i64_w])
              try rfl
            refine hK.out _ _ ⟨(by rw [ha.out]; exact putSel_upk 30 hb_ rfl rfl rfl), Q_HB⟩
          refine steps_cons ?_ ?_
          · rintro b a w' ⟨ha, Q_HB⟩ hb_ hon hoff
            refine ⟨_, rfl, fun K hK => ?_⟩
            have e57 : a.tmps[57]? = some (.bool true) := by rw [ha]; exact putSel_on (e := (23, 57, .bool true)) 20 rfl rfl (hon 23 (by kernel_rfl)) rfl
            have e67 : a.tmps[67]? = some (.bool true) := by rw [ha]; exact putSel_on (e := (33, 67, .bool true)) 30 rfl rfl (hon 33 (by kernel_rfl)) rfl
            replace ha := Aside0.mk ha
            have HB := Aside0.mk Q_HB
            refine value_ (w1 := w') (v := .bool true) (by rfl) rfl ?_ ?_
            · go_simp
              (try simp only [i64_w])
              try rfl
            refine hK.out _ _ ⟨(by rw [ha.out]; exact putSel_upk 31 hb_ rfl rfl rfl), Q_HB⟩
          refine steps_cons ?_ ?_
          · rintro b a w' ⟨ha, Q_HB⟩ hb_ hon hoff
            refine ⟨_, rfl, fun K hK => ?_⟩
            have e68 : a.tmps[68]? = some (.bool true) := by rw [ha]; exact putSel_on (e := (34, 68, .bool true)) 31 rfl rfl (hon 34 (by kernel_rfl)) rfl
            replace ha := Aside0.mk ha
            have HB := Aside0.mk Q_HB
            refine value_ (w1 := w') (v := .bool true) (by rfl) rfl ?_ ?_
            · go_simp
              (try simp only [i64_w])
              try rfl
            refine hK.out _ _ ⟨(by rw [ha.out]; exact putSel_upk 32 hb_ rfl rfl rfl), Q_HB⟩
          refine steps_cons ?_ ?_
          · rintro b a w' ⟨ha, Q_HB⟩ hb_ hon hoff
            refine ⟨_, rfl, fun K hK => ?_⟩
            have e5 : a.tmps[5]? = some (.pointer (some ⟨g5, 0, none⟩)) := by rw [ha]; exact (putSel_off rfl).trans rfl
            have e69 : a.tmps[69]? = some (.bool true) := by rw [ha]; exact putSel_on (e := (35, 69, .bool true)) 32 rfl rfl (hon 35 (by kernel_rfl)) rfl
            replace ha := Aside0.mk ha
            have HB := Aside0.mk Q_HB
            refine value_ (w1 := w') (v := .agg #[.int .i64 s1, .int .i64 s2, .int .i64 s3, .slice B3 s4.length Bc3, .slice B4 s5.length Bc4, .int .i64 s6, .int .i64 s7, .slice B7 s8.length Bc7, .int .i64 s9, .int .i64 s10, .int .i64 s11, .int .i64 s12, .slice B12 s13.length Bc12, .int .i64 s14, .int .i64 s15, .int .i64 s16]) (wanted_on rfl rfl rfl (e69.trans (by first | rfl | (simp [*]; done)))) rfl (loadAll 36 (.tmp 5) rfl g5 (by simp only [Act.eval, Array.getD_eq_getD_getElem?, e5, Option.getD_some]) 36 _ _ (blk_below BK5.out HB.out) Tryz.underlying36 rfl (by kernel_rfl)) ?_
            refine hK.out _ _ ⟨(by rw [ha.out]; exact putSel_upk 33 hb_ rfl rfl rfl), HB.out⟩
          refine steps_cons ?_ ?_
          · rintro b a w' ⟨ha, Q_HB⟩ hb_ hon hoff
            refine ⟨_, rfl, fun K hK => ?_⟩
            have e0 : a.tmps[0]? = some (.slice A0 l0.length c0) := by rw [ha]; exact (putSel_off rfl).trans rfl
            have e69 : a.tmps[69]? = some (.bool true) := by rw [ha]; exact putSel_on (e := (35, 69, .bool true)) 32 rfl rfl (hon 35 (by kernel_rfl)) rfl
            replace ha := Aside0.mk ha
            have HB := Aside0.mk Q_HB
            refine value_ (w1 := w') (v := .slice A0 l0.length c0) (wanted_on rfl rfl rfl (e69.trans (by first | rfl | (simp [*]; done)))) rfl ?_ ?_
            · go_simp
              (try simp only [i64_w])
              try rfl
            refine hK.out _ _ ⟨(by rw [ha.out]; exact putSel_upk 34 hb_ rfl rfl rfl), Q_HB⟩
          refine steps_cons ?_ ?_
          · rintro b a w' ⟨ha, Q_HB⟩ hb_ hon hoff
            refine ⟨_, rfl, fun K hK => ?_⟩
            have e71 : a.tmps[71]? = some (.slice A0 l0.length c0) := by rw [ha]; exact putSel_on (e := (37, 71, .slice A0 l0.length c0)) 34 rfl rfl (hon 37 (by kernel_rfl)) rfl
            have e69 : a.tmps[69]? = some (.bool true) := by rw [ha]; exact putSel_on (e := (35, 69, .bool true)) 32 rfl rfl (hon 35 (by kernel_rfl)) rfl
            replace ha := Aside0.mk ha
            have HB := Aside0.mk Q_HB
            refine goes_ Tryz.func11 (by kernel_rfl) rfl #[.slice A0 l0.length c0, .int .i64 0] (wanted_on rfl rfl rfl (e69.trans (by first | rfl | (simp [*]; done)))) rfl rfl (by first | (simp only [List.map_toArray, List.map_cons, List.map_nil, Act.eval, Array.getD_eq_getD_getElem?, Option.getD_some, e71, e69]; done) | (simp only [List.map_toArray, List.map_cons, List.map_nil, Act.eval, Array.getD_eq_getD_getElem?, Option.getD_some, e71, e69]; rfl)) ?_
            refine (laws_at.calls A0 c0 l0 0 t _ (Kd.C_below HR0.out (below_step HW.out (below_step HW5.out HB.out))) HC0.out HAT.out).mono ?_
            rintro e w2 ⟨rfl, ⟨nd, rfl⟩⟩
            refine ⟨_, rfl, ?_⟩
            refine hK.out _ _ ⟨(by rw [ha.out]; exact putSel_upk 35 hb_ rfl rfl rfl), pw_below_drewN HB.out nd⟩
          refine steps_cons ?_ ?_
          · rintro b a w' ⟨ha, Q_HB⟩ hb_ hon hoff
            refine ⟨_, rfl, fun K hK => ?_⟩
            have e70 : a.tmps[70]? = some (.agg #[.int .i64 s1, .int .i64 s2, .int .i64 s3, .slice B3 s4.length Bc3, .slice B4 s5.length Bc4, .int .i64 s6, .int .i64 s7, .slice B7 s8.length Bc7, .int .i64 s9, .int .i64 s10, .int .i64 s11, .int .i64 s12, .slice B12 s13.length Bc12, .int .i64 s14, .int .i64 s15, .int .i64 s16]) := by rw [ha]; exact putSel_on (e := (36, 70, .agg #[.int .i64 s1, .int .i64 s2, .int .i64 s3, .slice B3 s4.length Bc3, .slice B4 s5.length Bc4, .int .i64 s6, .int .i64 s7, .slice B7 s8.length Bc7, .int .i64 s9, .int .i64 s10, .int .i64 s11, .int .i64 s12, .slice B12 s13.length Bc12, .int .i64 s14, .int .i64 s15, .int .i64 s16])) 33 rfl rfl (hon 36 (by kernel_rfl)) rfl
            have e72 : a.tmps[72]? = some (.int .i64 t) := by rw [ha]; exact putSel_on (e := (38, 72, .int .i64 t)) 35 rfl rfl (hon 38 (by kernel_rfl)) rfl
            have e69 : a.tmps[69]? = some (.bool true) := by rw [ha]; exact putSel_on (e := (35, 69, .bool true)) 32 rfl rfl (hon 35 (by kernel_rfl)) rfl
            replace ha := Aside0.mk ha
            have HB := Aside0.mk Q_HB
            refine goes_ Tryz.func13 (by kernel_rfl) rfl #[.agg #[.int .i64 s1, .int .i64 s2, .int .i64 s3, .slice B3 s4.length Bc3, .slice B4 s5.length Bc4, .int .i64 s6, .int .i64 s7, .slice B7 s8.length Bc7, .int .i64 s9, .int .i64 s10, .int .i64 s11, .int .i64 s12, .slice B12 s13.length Bc12, .int .i64 s14, .int .i64 s15, .int .i64 s16], .int .i64 t] (wanted_on rfl rfl rfl (e69.trans (by first | rfl | (simp [*]; done)))) rfl rfl (by first | (simp only [List.map_toArray, List.map_cons, List.map_nil, Act.eval, Array.getD_eq_getD_getElem?, Option.getD_some, e70, e72, e69]; done) | (simp only [List.map_toArray, List.map_cons, List.map_nil, Act.eval, Array.getD_eq_getD_getElem?, Option.getD_some, e70, e72, e69]; rfl)) ?_
            refine (impl_LoadAt.calls kk s1 s2 s3 B3 Bc3 s4 B4 Bc4 s5 s6 s7 B7 Bc7 s8 s9 s10 s11 s12 B12 Bc12 s13 s14 s15 s16 t q _ (Kd.C_below HRB3.out HB.out) HCB3.out (Kd.C_below HRB4.out HB.out) HCB4.out (Kd.C_below HRB7.out HB.out) HCB7.out (Kd.C_below HRB12.out HB.out) HCB12.out HQ1.out).mono ?_
            rintro e w2 ⟨rfl, hb⟩
            refine ⟨_, rfl, ?_⟩
            refine hK.out _ _ ⟨(by rw [ha.out]; exact putSel_upk 36 hb_ rfl rfl rfl), below_step HB.out hb⟩
          refine steps_cons ?_ ?_
          · rintro b a w' ⟨ha, Q_HB⟩ hb_ hon hoff
            refine ⟨_, rfl, fun K hK => ?_⟩
            have e3 : a.tmps[3]? = some (.pointer (some ⟨g3, 0, none⟩)) := by rw [ha]; exact (putSel_off rfl).trans rfl
            have e69 : a.tmps[69]? = some (.bool true) := by rw [ha]; exact putSel_on (e := (35, 69, .bool true)) 32 rfl rfl (hon 35 (by kernel_rfl)) rfl
            replace ha := Aside0.mk ha
            have HB := Aside0.mk Q_HB
            refine value_ (w1 := w') (v := .agg #[.int .i64 s1, .int .i64 s2, .int .i64 s3, .slice A3 s4.length Ac3, .slice A4 s5.length Ac4, .int .i64 s6, .int .i64 s7, .slice A7 s8.length Ac7, .int .i64 s9, .int .i64 s10, .int .i64 s11, .int .i64 s12, .slice A12 s13.length Ac12, .int .i64 s14, .int .i64 s15, .int .i64 s16]) (wanted_on rfl rfl rfl (e69.trans (by first | rfl | (simp [*]; done)))) rfl (loadAll 36 (.tmp 3) rfl g3 (by simp only [Act.eval, Array.getD_eq_getD_getElem?, e3, Option.getD_some]) 36 _ _ (blk_below BK3.out (below_step HW5.out HB.out)) Tryz.underlying36 rfl (by kernel_rfl)) ?_
            refine hK.out _ _ ⟨(by rw [ha.out]; exact putSel_upk 37 hb_ rfl rfl rfl), HB.out⟩
          refine steps_cons ?_ ?_
          · rintro b a w' ⟨ha, Q_HB⟩ hb_ hon hoff
            refine ⟨_, rfl, fun K hK => ?_⟩
            have e0 : a.tmps[0]? = some (.slice A0 l0.length c0) := by rw [ha]; exact (putSel_off rfl).trans rfl
            have e69 : a.tmps[69]? = some (.bool true) := by rw [ha]; exact putSel_on (e := (35, 69, .bool true)) 32 rfl rfl (hon 35 (by kernel_rfl)) rfl
            replace ha := Aside0.mk ha
            have HB := Aside0.mk Q_HB
            refine value_ (w1 := w') (v := .slice A0 l0.length c0) (wanted_on rfl rfl rfl (e69.trans (by first | rfl | (simp [*]; done)))) rfl ?_ ?_
            · go_simp
              (try simp only [i64_w])
              try rfl
            refine hK.out _ _ ⟨(by rw [ha.out]; exact putSel_upk 38 hb_ rfl rfl rfl), Q_HB⟩
          refine steps_cons ?_ ?_
          · rintro b a w' ⟨ha, Q_HB⟩ hb_ hon hoff
            refine ⟨_, rfl, fun K hK => ?_⟩
            have e75 : a.tmps[75]? = some (.slice A0 l0.length c0) := by rw [ha]; exact putSel_on (e := (41, 75, .slice A0 l0.length c0)) 38 rfl rfl (hon 41 (by kernel_rfl)) rfl
            have e69 : a.tmps[69]? = some (.bool true) := by rw [ha]; exact putSel_on (e := (35, 69, .bool true)) 32 rfl rfl (hon 35 (by kernel_rfl)) rfl
            replace ha := Aside0.mk ha
            have HB := Aside0.mk Q_HB
            refine goes_ Tryz.func11 (by kernel_rfl) rfl #[.slice A0 l0.length c0, .int .i64 0] (wanted_on rfl rfl rfl (e69.trans (by first | rfl | (simp [*]; done)))) rfl rfl (by first | (simp only [List.map_toArray, List.map_cons, List.map_nil, Act.eval, Array.getD_eq_getD_getElem?, Option.getD_some, e75, e69]; done) | (simp only [List.map_toArray, List.map_cons, List.map_nil, Act.eval, Array.getD_eq_getD_getElem?, Option.getD_some, e75, e69]; rfl)) ?_
            refine (laws_at.calls A0 c0 l0 0 t _ (Kd.C_below HR0.out (below_step HW.out (below_step HW5.out HB.out))) HC0.out HAT.out).mono ?_
            rintro e w2 ⟨rfl, ⟨nd, rfl⟩⟩
            refine ⟨_, rfl, ?_⟩
            refine hK.out _ _ ⟨(by rw [ha.out]; exact putSel_upk 39 hb_ rfl rfl rfl), pw_below_drewN HB.out nd⟩
          refine steps_cons ?_ ?_
          · rintro b a w' ⟨ha, Q_HB⟩ hb_ hon hoff
            refine ⟨_, rfl, fun K hK => ?_⟩
            have e74 : a.tmps[74]? = some (.agg #[.int .i64 s1, .int .i64 s2, .int .i64 s3, .slice A3 s4.length Ac3, .slice A4 s5.length Ac4, .int .i64 s6, .int .i64 s7, .slice A7 s8.length Ac7, .int .i64 s9, .int .i64 s10, .int .i64 s11, .int .i64 s12, .slice A12 s13.length Ac12, .int .i64 s14, .int .i64 s15, .int .i64 s16]) := by rw [ha]; exact putSel_on (e := (40, 74, .agg #[.int .i64 s1, .int .i64 s2, .int .i64 s3, .slice A3 s4.length Ac3, .slice A4 s5.length Ac4, .int .i64 s6, .int .i64 s7, .slice A7 s8.length Ac7, .int .i64 s9, .int .i64 s10, .int .i64 s11, .int .i64 s12, .slice A12 s13.length Ac12, .int .i64 s14, .int .i64 s15, .int .i64 s16])) 37 rfl rfl (hon 40 (by kernel_rfl)) rfl
            have e76 : a.tmps[76]? = some (.int .i64 t) := by rw [ha]; exact putSel_on (e := (42, 76, .int .i64 t)) 39 rfl rfl (hon 42 (by kernel_rfl)) rfl
            have e69 : a.tmps[69]? = some (.bool true) := by rw [ha]; exact putSel_on (e := (35, 69, .bool true)) 32 rfl rfl (hon 35 (by kernel_rfl)) rfl
            replace ha := Aside0.mk ha
            have HB := Aside0.mk Q_HB
            refine goes_ Tryz.func14 (by kernel_rfl) rfl #[.agg #[.int .i64 s1, .int .i64 s2, .int .i64 s3, .slice A3 s4.length Ac3, .slice A4 s5.length Ac4, .int .i64 s6, .int .i64 s7, .slice A7 s8.length Ac7, .int .i64 s9, .int .i64 s10, .int .i64 s11, .int .i64 s12, .slice A12 s13.length Ac12, .int .i64 s14, .int .i64 s15, .int .i64 s16], .int .i64 t] (wanted_on rfl rfl rfl (e69.trans (by first | rfl | (simp [*]; done)))) rfl rfl (by first | (simp only [List.map_toArray, List.map_cons, List.map_nil, Act.eval, Array.getD_eq_getD_getElem?, Option.getD_some, e74, e76, e69]; done) | (simp only [List.map_toArray, List.map_cons, List.map_nil, Act.eval, Array.getD_eq_getD_getElem?, Option.getD_some, e74, e76, e69]; rfl)) ?_
            refine (spec_LoadAt.calls kk s1 s2 s3 A3 Ac3 s4 A4 Ac4 s5 s6 s7 A7 Ac7 s8 s9 s10 s11 s12 A12 Ac12 s13 s14 s15 s16 t q _ (Kd.C_below HRA3.out (below_step HW5.out HB.out)) HCA3.out (Kd.C_below HRA4.out (below_step HW5.out HB.out)) HCA4.out (Kd.C_below HRA7.out (below_step HW5.out HB.out)) HCA7.out (Kd.C_below HRA12.out (below_step HW5.out HB.out)) HCA12.out HQ2.out).mono ?_
            rintro e w2 ⟨rfl, hb⟩
            refine ⟨_, rfl, ?_⟩
            refine hK.out _ _ ⟨(by rw [ha.out]; exact putSel_upk 40 hb_ rfl rfl rfl), below_step HB.out hb⟩
          refine steps_cons ?_ ?_
          · rintro b a w' ⟨ha, Q_HB⟩ hb_ hon hoff
            refine ⟨_, rfl, fun K hK => ?_⟩
            have e73 : a.tmps[73]? = some (.int .i64 q) := by rw [ha]; exact putSel_on (e := (39, 73, .int .i64 q)) 36 rfl rfl (hon 39 (by kernel_rfl)) rfl
            have e77 : a.tmps[77]? = some (.int .i64 q) := by rw [ha]; exact putSel_on (e := (43, 77, .int .i64 q)) 40 rfl rfl (hon 43 (by kernel_rfl)) rfl
            have e69 : a.tmps[69]? = some (.bool true) := by rw [ha]; exact putSel_on (e := (35, 69, .bool true)) 32 rfl rfl (hon 35 (by kernel_rfl)) rfl
            replace ha := Aside0.mk ha
            have HB := Aside0.mk Q_HB
            refine value_ (w1 := w') (v := .bool true) (wanted_on rfl rfl rfl (e69.trans (by first | rfl | (simp [*]; done)))) rfl ?_ ?_
            · go_simp
              (try simp only [i64_w])
              try rfl
            refine hK.out _ _ ⟨(by rw [ha.out]; exact putSel_upk 41 hb_ rfl rfl rfl), Q_HB⟩
          refine steps_cons ?_ ?_
          · rintro b a w' ⟨ha, Q_HB⟩ hb_ hon hoff
            refine ⟨_, rfl, fun K hK => ?_⟩
            have e69 : a.tmps[69]? = some (.bool true) := by rw [ha]; exact putSel_on (e := (35, 69, .bool true)) 32 rfl rfl (hon 35 (by kernel_rfl)) rfl
            have e78 : a.tmps[78]? = some (.bool true) := by rw [ha]; exact putSel_on (e := (44, 78, .bool true)) 41 rfl rfl (hon 44 (by kernel_rfl)) rfl
            replace ha := Aside0.mk ha
            have HB := Aside0.mk Q_HB
            refine value_ (w1 := w') (v := .bool true) (by rfl) rfl ?_ ?_
            · go_simp
              (try simp only [i64_w])
              try rfl
            refine hK.out _ _ ⟨(by rw [ha.out]; exact putSel_upk 42 hb_ rfl rfl rfl), Q_HB⟩
          refine steps_cons ?_ ?_
          · rintro b a w' ⟨ha, Q_HB⟩ hb_ hon hoff
            refine ⟨_, rfl, fun K hK => ?_⟩
            have e79 : a.tmps[79]? = some (.bool true) := by rw [ha]; exact putSel_on (e := (45, 79, .bool true)) 42 rfl rfl (hon 45 (by kernel_rfl)) rfl
            replace ha := Aside0.mk ha
            have HB := Aside0.mk Q_HB
            refine value_ (w1 := w') (v := .bool true) (by rfl) rfl ?_ ?_
            · go_simp
              (try simp only [i64_w])
              try rfl
            refine hK.out _ _ ⟨(by rw [ha.out]; exact putSel_upk 43 hb_ rfl rfl rfl), Q_HB⟩
          exact steps_nil
        rintro b a w11 hall ⟨ha, Q_HB⟩
        clear HB
        have hb2_ := hall 2 (by kernel_rfl)
        have hb3_ := hall 3 (by kernel_rfl)
        have hb5_ := hall 5 (by kernel_rfl)
        have hb6_ := hall 6 (by kernel_rfl)
        have hb7_ := hall 7 (by kernel_rfl)
        have hb8_ := hall 8 (by kernel_rfl)
        have hb9_ := hall 9 (by kernel_rfl)
        have hb10_ := hall 10 (by kernel_rfl)
        have hb11_ := hall 11 (by kernel_rfl)
        have hb12_ := hall 12 (by kernel_rfl)
        have hb13_ := hall 13 (by kernel_rfl)
        have hb14_ := hall 14 (by kernel_rfl)
        have hb15_ := hall 15 (by kernel_rfl)
        have hb16_ := hall 16 (by kernel_rfl)
        have hb17_ := hall 17 (by kernel_rfl)
        have hb18_ := hall 18 (by kernel_rfl)
        have hb19_ := hall 19 (by kernel_rfl)
        have hb20_ := hall 20 (by kernel_rfl)
        have hb21_ := hall 21 (by kernel_rfl)
        have hb22_ := hall 22 (by kernel_rfl)
        have hb23_ := hall 23 (by kernel_rfl)
        have hb24_ := hall 24 (by kernel_rfl)
        have hb25_ := hall 25 (by kernel_rfl)
        have hb26_ := hall 26 (by kernel_rfl)
        have hb27_ := hall 27 (by kernel_rfl)
        have hb28_ := hall 28 (by kernel_rfl)
        have hb29_ := hall 29 (by kernel_rfl)
        have hb30_ := hall 30 (by kernel_rfl)
        have hb31_ := hall 31 (by kernel_rfl)
        have hb32_ := hall 32 (by kernel_rfl)
        have hb33_ := hall 33 (by kernel_rfl)
        have hb34_ := hall 34 (by kernel_rfl)
        have hb35_ := hall 35 (by kernel_rfl)
        have hb36_ := hall 36 (by kernel_rfl)
        have hb37_ := hall 37 (by kernel_rfl)
        have hb38_ := hall 38 (by kernel_rfl)
        have hb39_ := hall 39 (by kernel_rfl)
        have hb40_ := hall 40 (by kernel_rfl)
        have hb41_ := hall 41 (by kernel_rfl)
        have hb42_ := hall 42 (by kernel_rfl)
        have hb43_ := hall 43 (by kernel_rfl)
        have hb44_ := hall 44 (by kernel_rfl)
        have hb45_ := hall 45 (by kernel_rfl)
        have hb46_ := hall 46 (by kernel_rfl)
        subst ha
        simp only [putSel, hb2_, hb3_, hb5_, hb6_, hb7_, hb8_, hb9_, hb10_, hb11_, hb12_, hb13_, hb14_, hb15_, hb16_, hb17_, hb18_, hb19_, hb20_, hb21_, hb22_, hb23_, hb24_, hb25_, hb26_, hb27_, hb28_, hb29_, hb30_, hb31_, hb32_, hb33_, hb34_, hb35_, hb36_, hb37_, hb38_, hb39_, hb40_, hb41_, hb42_, hb43_, hb44_, hb45_, hb46_, if_true, Act.put, List.setIfInBounds_toArray, List.set_cons_zero, List.set_cons_succ]
        have HB := Aside0.mk Q_HB
        clear Q_HB
        clear hall hb2_ hb3_ hb5_ hb6_ hb7_ hb8_ hb9_ hb10_ hb11_ hb12_ hb13_ hb14_ hb15_ hb16_ hb17_ hb18_ hb19_ hb20_ hb21_ hb22_ hb23_ hb24_ hb25_ hb26_ hb27_ hb28_ hb29_ hb30_ hb31_ hb32_ hb33_ hb34_ hb35_ hb36_ hb37_ hb38_ hb39_ hb40_ hb41_ hb42_ hb43_ hb44_ hb45_ hb46_
        go_wp2
        go_ret
        exact ⟨rfl, below_step HW.out (below_step HW5.out HB.out)⟩
end Go.Proofs.YtidkiabehmdofaaGreatDoor.PA
