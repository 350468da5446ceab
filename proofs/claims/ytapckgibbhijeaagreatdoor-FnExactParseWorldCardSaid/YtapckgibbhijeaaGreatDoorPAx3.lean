/- Functions of the program, of the reference and of the statements: each as a plain Lean function, and a proof that the machine's call answers what that one answers. Written by a program: the kit's print, with contracts of our own for what it does not take. No condition. -/
import Derived.Test.YtapckgibbhijeaaGreatDoorPAx0
import Derived.Test.YtapckgibbhijeaaGreatDoorPAx2
namespace Go.Proofs.YtapckgibbhijeaaGreatDoor.PA
set_option maxHeartbeats 8000000
set_option maxRecDepth 100000
open Go.RowKit Go.Proofs.YtapckgibbhijeaaGreatDoorW.PrintWords Go.Proofs.YtapckgibbhijeaaGreatDoorW.PrintLast Go.Proofs.YtapckgibbhijeaaGreatDoorW.PrintMore
attribute [local go_sem] max2_int min2_int max_two min_two max_three min_three max_four min_four   -- for this text's walks alone
set_option linter.unusedVariables false
set_option linter.unusedSimpArgs false

/-! ### spec_l08Side: function 44 -/
def spec_l08Side.l0 : Nat → Int → List (S102) → Int → Int → List (S102) → Int → Int → Option ((List (S102)) × Int × Int)
 | 0, _, _, _, _, _, _, _ => none
 | k + 1, x4, x209000, x209001, x209002, x211000, x211001, x211002 => if x4 < (x209000.length : Int) then (if 0 ≤ x4 then (if x211000.length < 5864062014805 then (spec_l08Side.l0 k (wrap64 (x4 + 1)) x209000 x209001 x209002 (x211000 ++ [(⟨(rd_T102 x209000 x4).f0, (rd_T102 x209000 x4).f1, (rd_T102 x209000 x4).f2⟩ : S102)]) x211001 x211002) else (none)) else (none)) else (some (x211000, x211001, x211002))
def spec_l08Side.f (k : Nat) (l0_0 : List (S102)) (a0_1 : Int) (a0_2 : Int) : Option ((List (S102)) × Int × Int) := spec_l08Side.l0 k 0 l0_0 a0_1 a0_2 ([] : List (S102)) a0_1 a0_2
theorem spec_l08Side.mono_l : ∀ k, (∀ y0 y1 y2 y3 y4 y5 y6, LeO (spec_l08Side.l0 k y0 y1 y2 y3 y4 y5 y6) (spec_l08Side.l0 (k + 1) y0 y1 y2 y3 y4 y5 y6))
 | 0 => fun _ _ _ _ _ _ _ r h => by simp [spec_l08Side.l0] at h
 | k + 1 => by
  have ih0 := spec_l08Side.mono_l k
  intro y0 y1 y2 y3 y4 y5 y6
  unfold spec_l08Side.l0
  exact Pst.mo
theorem spec_l08Side.mono : ∀ a0 a1 a2 k, LeO (spec_l08Side.f k a0 a1 a2) (spec_l08Side.f (k + 1) a0 a1 a2) := by
 intro a0 a1 a2 k
 have ih0 := spec_l08Side.mono_l k
 unfold spec_l08Side.f
 exact Pst.mo
def spec_l08Side.T5 : Bool × List (List Nat × List Nat) := (true, [([], []), ([0], [0]), ([], []), ([2], [2]), ([], []), ([3, 4], [3, 4]), ([5], [5]), ([6], [6]), ([1, 7], [1, 7]), ([0, 1, 2, 3, 4, 5, 6, 7, 8], []), ([9, 8, 8, 0, 1, 2, 3, 4, 5, 6, 7, 8], [8, 9])])
def spec_l08Side.B5 : List Nat := [0, 1, 0, 4, 0, 28, 60, 124, 255, 511, 1023]
theorem spec_l08Side.tab5 : rtab .any (opsOf Tryz.f44 5) = spec_l08Side.T5 := by kernel_rfl
theorem spec_l08Side.bits5 : waitsOk spec_l08Side.T5.2 spec_l08Side.B5 = true := by kernel_rfl
theorem spec_l08Side.calls (k : Nat) (A0_0 : Option Addr) (c0_0 : Nat) (l0_0 : List (S102)) (a0_1 : Int) (a0_2 : Int) (r1 : List (S102)) (r2 : Int) (r3 : Int) (w : World) (hr0_0 : Kd.C k102 w A0_0 l0_0.length l0_0) (hc0_0 : l0_0.length ≤ c0_0) (h : spec_l08Side.f k l0_0 a0_1 a0_2 = some (r1, r2, r3)) :
 Calls Tryz.prog 44 #[.agg #[.slice A0_0 l0_0.length c0_0, .int .i64 a0_1, .int .i64 a0_2]] w fun e w' => ∃ v0_ : Value, e = .returned (.agg #[v0_, .int .i64 r2, .int .i64 r3]) ∧ Kd.R k102 102 w' w.heap.size (fun _ => True) v0_ r1 ∧ Below w.heap.size w w' := by
 have hu37 := Tryz.underlying37
 have hu102 := Tryz.underlying102
 have HR0_0 := Pst.A hr0_0
 have HC0_0 := Pst.A hc0_0
 clear hr0_0 hc0_0
 have HB := Pst.A (Below.refl w.heap.size w)
 have H : (spec_l08Side.l0 k 0 l0_0 a0_1 a0_2 ([] : List (S102)) a0_1 a0_2) = some (r1, r2, r3) := h
 clear h
 have H' := Pst.A H
 clear H
 go_enter Tryz.func44, Tryz.ntmps44
 go_wp2_with (first | ((with_reducible refine gate_dst (N := 1) rfl ?_); refine Pst.bx 1 #[.slice A0_0 l0_0.length c0_0, .int .i64 a0_1, .int .i64 a0_2] 37 ?_; intro gb208 hg w2 hbox hb; have BK208 := Pst.A hbox; have GW208 := Pst.A (Pst.gs hg : w.heap.size ≤ gb208); have GE208 := Pst.A (Pst.gs hg : w.heap.size ≤ gb208); replace HB := Pst.A (below_step Pst.bel hb); clear hb hbox hg) | ((with_reducible refine gate_dst (N := 2) rfl ?_); refine Pst.bx 2 #[.slice none 0 0, .int .i64 0, .int .i64 0] 37 ?_; intro gb209 hg w3 hbox hb; have BK209 := Pst.A hbox; have GW209 := Pst.A (Pst.gs hg : w.heap.size ≤ gb209); have GE209 := Pst.A (Pst.gs hg : w.heap.size ≤ gb209); have NB208_209 := Pst.A (Pst.nl BK208.out hg); have NB209_208 := Pst.A (Pst.nr BK208.out hg); replace BK208 := Pst.A (Pst.kb BK208.out hb); replace HB := Pst.A (below_step Pst.bes hb); clear hb hbox hg; have hnb4 := NB208_209.out; have hnc4 := NB209_208.out; obtain ⟨hcz5_0, hcz5_1, hcz5_2⟩ := Pst.c3 BK208.out; obtain ⟨hfz5_0, hfz5_1, hfz5_2⟩ := Pst.f3 BK208.out) | ((with_reducible refine gate_dst (N := 3) rfl ?_); refine Pst.bx 3 #[.slice none 0 0, .int .i64 0, .int .i64 0] 37 ?_; intro gb210 hg w6 hbox hb; have BK210 := Pst.A hbox; have GW210 := Pst.A (Pst.gs hg : w.heap.size ≤ gb210); have GE210 := Pst.A (Pst.gs hg : w.heap.size ≤ gb210); have NB208_210 := Pst.A (Pst.nl BK208.out hg); have NB210_208 := Pst.A (Pst.nr BK208.out hg); have NB209_210 := Pst.A (Pst.nl BK209.out hg); have NB210_209 := Pst.A (Pst.nr BK209.out hg); replace BK208 := Pst.A (Pst.kb BK208.out hb); replace BK209 := Pst.A (Pst.kb BK209.out hb); replace HB := Pst.A (below_step Pst.bes hb); clear hb hbox hg; have hnb7 := NB210_208.out; have hnc7 := NB208_210.out; have hnb8 := NB210_209.out; have hnc8 := NB209_210.out; obtain ⟨hcz9_0, hcz9_1, hcz9_2⟩ := Pst.c3 BK210.out; obtain ⟨hfz9_0, hfz9_1, hfz9_2⟩ := Pst.f3 BK210.out))
 go_loopg [4] k (fun kq v4 w' => ∃ (x4_1 : Int) (x211000_1 : List (S102)) (u211000 : Value), v4 = .int .i64 x4_1 ∧ Aside0 (spec_l08Side.l0 kq x4_1 l0_0 a0_1 a0_2 x211000_1 a0_1 a0_2 = some (r1, r2, r3)) ∧ Aside0 (kq ≤ k) ∧ Aside0 (Kd.R k102 102 w' w.heap.size (fun _ => True) u211000 x211000_1) ∧ Aside0 (w'.heap[gb208]? = some (.cells #[(.slice A0_0 l0_0.length c0_0), .int .i64 a0_1, .int .i64 a0_2] 37 (0, 0))) ∧ Aside0 (w'.heap[gb209]? = some (.cells #[(.slice none 0 0), .int .i64 0, .int .i64 0] 37 (0, 0))) ∧ Aside0 (w'.heap[gb210]? = some (.cells #[u211000, .int .i64 a0_1, .int .i64 a0_2] 37 (0, 0))) ∧ Aside0 (Below w.heap.size w w'))
 case atStart => exact ⟨(0), (([] : List (S102))), (.slice none 0 0), Pst.e2, H', ⟨Nat.le_refl _⟩, ⟨by first | exact Kd.R_nil _ _ _ _ _ | exact Kd.N_nil _ _ _ _ _ | exact Kd.V_nil _ _ _ _ _ | exact Kd.Q_nil _ _ _ _ _ | exact Kd.S_nil _ _ _ _ _⟩, ⟨by (with_reducible repeat (first | refine blk_drewN ?_ _ | refine blk_drew ?_ | refine blk_alloc ?_ _)); refine blk_far ?_ NB208_210.out _; (with_reducible repeat (first | refine blk_drewN ?_ _ | refine blk_drew ?_ | refine blk_alloc ?_ _)); refine blk_far ?_ NB208_210.out _; (with_reducible repeat (first | refine blk_drewN ?_ _ | refine blk_drew ?_ | refine blk_alloc ?_ _)); refine blk_far ?_ NB208_210.out _; exact Pst.qb BK208.out⟩, ⟨by (with_reducible repeat (first | refine blk_drewN ?_ _ | refine blk_drew ?_ | refine blk_alloc ?_ _)); refine blk_far ?_ NB209_210.out _; (with_reducible repeat (first | refine blk_drewN ?_ _ | refine blk_drew ?_ | refine blk_alloc ?_ _)); refine blk_far ?_ NB209_210.out _; (with_reducible repeat (first | refine blk_drewN ?_ _ | refine blk_drew ?_ | refine blk_alloc ?_ _)); refine blk_far ?_ NB209_210.out _; exact Pst.qb BK209.out⟩, ⟨by (with_reducible repeat (first | refine blk_drewN ?_ _ | refine blk_drew ?_ | refine blk_alloc ?_ _)); refine blk_put (cs := #[.slice none 0 0, .int .i64 a0_1, .int .i64 0]) ?_ 2 _ rfl; (with_reducible repeat (first | refine blk_drewN ?_ _ | refine blk_drew ?_ | refine blk_alloc ?_ _)); refine blk_put (cs := #[.slice none 0 0, .int .i64 0, .int .i64 0]) ?_ 1 _ rfl; (with_reducible repeat (first | refine blk_drewN ?_ _ | refine blk_drew ?_ | refine blk_alloc ?_ _)); refine blk_put (cs := #[.slice none 0 0, .int .i64 0, .int .i64 0]) ?_ 0 _ rfl; exact Pst.qb BK210.out⟩, ⟨Pst.bes⟩⟩
 clear H'
 try clear p2
 try clear c4
 try clear c7
 try clear c8
 obtain ⟨x4_1, x211000_1, u211000, rfl, HA, HK1, HO_211000, BK208, BK209, BK210, HB⟩ := hrel
 cases gk with
 | zero => exact absurd HA.out (by simp [spec_l08Side.l0])
 | succ k1 =>
  have H := HA.out
  clear HA
  simp only [spec_l08Side.l0] at H
  by_cases c10 : x4_1 < (l0_0.length : Int)
  ·rw [if_pos c10] at H
   have c10b0 : decide (x4_1 < (l0_0.length : Int)) = true := decide_eq_true c10
   clear c10
   by_cases c11 : 0 ≤ x4_1
   ·rw [if_pos c11] at H
    have c11b0 : decide (0 ≤ x4_1) = true := decide_eq_true c11
    clear c11
    by_cases c12 : x211000_1.length < 5864062014805
    ·rw [if_pos c12] at H
     have LMc12 := Pst.A c12
     clear c12
     obtain ⟨y212, hy212⟩ : ∃ y_ : List (S102), y_ = (x211000_1 ++ [(⟨(rd_T102 l0_0 x4_1).f0, (rd_T102 l0_0 x4_1).f1, (rd_T102 l0_0 x4_1).f2⟩ : S102)]) := ⟨_, rfl⟩
     replace H : (spec_l08Side.l0 k1 (wrap64 (x4_1 + 1)) l0_0 a0_1 a0_2 y212 a0_1 a0_2) = some (r1, r2, r3) := by first | (rw [hy212]; with_reducible exact H) | (have H2_ := (Option.bind_some _ _).symm.trans H; rw [hy212]; with_reducible exact H2_) | (have H2_ := (Option.bind_some _ _).symm.trans H; with_reducible exact H2_) | with_reducible exact H | (rw [hy212]; exact H) | exact H
     have Ny212 := Pst.A hy212
     clear hy212
     have H' := Pst.A H
     clear H
     have hnb13 := NB208_209.out
     have hnc13 := NB209_208.out
     have hnb14 := NB208_210.out
     have hnc14 := NB210_208.out
     obtain ⟨hcz15_0, hcz15_1, hcz15_2⟩ := Pst.c3 BK208.out
     obtain ⟨hfz15_0, hfz15_1, hfz15_2⟩ := Pst.f3 BK208.out
     try go_wp2
     replace HO_211000 := Pst.A (Kd.R_drew HO_211000.out)
     replace BK208 := Pst.A (blk_drew BK208.out)
     replace BK209 := Pst.A (blk_drew BK209.out)
     replace BK210 := Pst.A (blk_drew BK210.out)
     replace HB := Pst.A (below_drew1 HB.out)
     have p211 : 0 ≤ (x4_1 : Int) := Pst.da
     have q211 : x4_1 < (l0_0.length : Int) := Pst.da
     obtain ⟨ad211, e211, hx211_0, hx211_1, hx211_2⟩ := at_T102 HR0_0.out x4_1 p211 q211
     have hw211_2 := hx211_2
     have hw211_1 := hx211_1
     have hw211_0 := hx211_0
     cases e211
     replace hx211_0 := (HB.out.cell (World.block_lt_of_cell? w _ hx211_0)).trans hx211_0
     replace hx211_1 := (HB.out.cell (World.block_lt_of_cell? w _ hx211_1)).trans hx211_1
     replace hx211_2 := (HB.out.cell (World.block_lt_of_cell? w _ hx211_2)).trans hx211_2
     replace p211 := eq_true p211
     replace q211 := eq_true q211
     refine start_ (n := 11) (S := fun w' => w'.cell? ⟨gb210, 0, none⟩ = some (u211000) ∧ w'.cell? ⟨gb210, 1, none⟩ = some (.int .i64 a0_1) ∧ w'.cell? ⟨gb210, 2, none⟩ = some (.int .i64 a0_2) ∧ w'.cell? ⟨gb208, 0, none⟩ = some (.slice (some ad211) l0_0.length c0_0) ∧ w'.cell? ⟨gb208, 1, none⟩ = some (.int .i64 a0_1) ∧ w'.cell? ⟨gb208, 2, none⟩ = some (.int .i64 a0_2) ∧ w'.cell? (ad211.add ((x4_1).toNat * 3)) = some (.int .i64 ((rd_T102 l0_0 x4_1).f0)) ∧ w'.cell? ⟨(ad211.add ((x4_1).toNat * 3)).block, (ad211.add ((x4_1).toNat * 3)).off + 1, none⟩ = some (.int .i64 ((rd_T102 l0_0 x4_1).f1)) ∧ w'.cell? ⟨(ad211.add ((x4_1).toNat * 3)).block, (ad211.add ((x4_1).toNat * 3)).off + 2, none⟩ = some (.int .i64 ((rd_T102 l0_0 x4_1).f2))) (ds := [10]) #[false, false, false, false, false, false, false, false, false, false, false] (by kernel_rfl) rfl rfl ⟨(blk_cell BK210.out 0).trans rfl, (blk_cell BK210.out 1).trans rfl, (blk_cell BK210.out 2).trans rfl, (blk_cell BK208.out 0).trans rfl, (blk_cell BK208.out 1).trans rfl, (blk_cell BK208.out 2).trans rfl, ((HB.out.cell (World.block_lt_of_cell? w _ hw211_0)).trans hw211_0), ((HB.out.cell (World.block_lt_of_cell? w _ hw211_1)).trans hw211_1), ((HB.out.cell (World.block_lt_of_cell? w _ hw211_2)).trans hw211_2)⟩ (fun hHeld => ?_); refine with_tabW spec_l08Side.tab5 spec_l08Side.bits5 (fun HT_ HW_ => ?_)
     generalize wr.drew = w16 at HO_211000 BK208 BK209 BK210 HB hx211_0 hx211_1 hx211_2 hHeld ⊢
     refine pure_ (i := 0) (N := some 17) (v := ?_) (a' := ?_) #[true, false, false, false, false, false, false, false, false, false, false] rfl rfl (any_of HT_.out (by kernel_rfl)) (fun _ _ _ h => h) (Or.inl ⟨by rfl, ?_⟩) ?_ ?_
     rotate_left
     ·intro w'
      go_simp
      with_reducible rfl
     rotate_left
     ·simp only [Pst.all]
      rfl
     refine pure_ (i := 2) (N := some 19) (v := ?_) (a' := ?_) #[true, false, true, false, false, false, false, false, false, false, false] rfl rfl (any_of HT_.out (by kernel_rfl)) (fun _ _ _ h => h) (Or.inl ⟨by rfl, ?_⟩) ?_ ?_
     rotate_left
     ·intro w'
      go_simp
      with_reducible rfl
     rotate_left
     ·simp only [Pst.all]
      rfl
     refine pure_ (i := 4) (N := some 21) (v := ?_) (a' := ?_) #[true, false, true, false, true, false, false, false, false, false, false] rfl rfl (any_of HT_.out (by kernel_rfl)) (fun _ _ _ h => h) (Or.inl ⟨by rfl, ?_⟩) ?_ ?_
     rotate_left
     ·intro w'
      go_simp
      with_reducible rfl
     rotate_left
     ·simp only [Pst.all]
      rfl
     refine take_ (i := 1) (N := some 18) (v := ?_) (a' := ?_) #[true, true, true, false, true, false, false, false, false, false, false] rfl rfl (take_ofW HT_.out HW_.out (by kernel_rfl)) (fun _ _ _ h => h) (Or.inl ⟨by rfl, ?_⟩) hHeld ?_ ?_
     rotate_left
     ·rintro w' ⟨s0, s1, s2, s3, s4, s5, s6, s7, s8⟩
      go_simp
      with_reducible rfl
     rotate_left
     ·simp only [Pst.all]
      rfl
     refine take_ (i := 3) (N := some 20) (v := ?_) (a' := ?_) #[true, true, true, true, true, false, false, false, false, false, false] rfl rfl (take_ofW HT_.out HW_.out (by kernel_rfl)) (fun _ _ _ h => h) (Or.inl ⟨by rfl, ?_⟩) hHeld ?_ ?_
     rotate_left
     ·rintro w' ⟨s0, s1, s2, s3, s4, s5, s6, s7, s8⟩
      go_simp
      with_reducible rfl
     rotate_left
     ·simp only [Pst.all]
      rfl
     refine pure_ (i := 5) (N := some 22) (v := ?_) (a' := ?_) #[true, true, true, true, true, true, false, false, false, false, false] rfl rfl (any_of HT_.out (by kernel_rfl)) (fun _ _ _ h => h) (Or.inl ⟨by rfl, ?_⟩) ?_ ?_
     rotate_left
     ·intro w'
      go_simp
      with_reducible rfl
     rotate_left
     ·simp only [Pst.all]
      rfl
     refine take_ (i := 6) (N := some 23) (v := ?_) (a' := ?_) #[true, true, true, true, true, true, true, false, false, false, false] rfl rfl (take_ofW HT_.out HW_.out (by kernel_rfl)) (fun _ _ _ h => h) (Or.inl ⟨by rfl, ?_⟩) hHeld ?_ ?_
     rotate_left
     ·rintro w' ⟨s0, s1, s2, s3, s4, s5, s6, s7, s8⟩
      go_simp
      with_reducible rfl
     rotate_left
     ·simp only [Pst.all]
      rfl
     refine one_ (i := 7) (N := some 24) #[true, true, true, true, true, true, true, true, false, false, false] rfl rfl (one_of HT_.out (by kernel_rfl)) (by decide) (fun K hK => ?_)
     refine value_ (w1 := ?_) (v := ?_) (by rfl) rfl ?_ ?_
     rotate_left 2
     ·go_simp
      constructor
      ·rfl
      rfl
     refine hK.out _ _ ⟨(blk_cell (blk_alloc BK210.out _) 0).trans rfl, (blk_cell (blk_alloc BK210.out _) 1).trans rfl, (blk_cell (blk_alloc BK210.out _) 2).trans rfl, (blk_cell (blk_alloc BK208.out _) 0).trans rfl, (blk_cell (blk_alloc BK208.out _) 1).trans rfl, (blk_cell (blk_alloc BK208.out _) 2).trans rfl, (World.cell?_alloc_lt _ _ _ (World.block_lt_of_cell? _ _ (((HB.out.cell (World.block_lt_of_cell? w _ hw211_0)).trans hw211_0)))).trans (((HB.out.cell (World.block_lt_of_cell? w _ hw211_0)).trans hw211_0)), (World.cell?_alloc_lt _ _ _ (World.block_lt_of_cell? _ _ (((HB.out.cell (World.block_lt_of_cell? w _ hw211_1)).trans hw211_1)))).trans (((HB.out.cell (World.block_lt_of_cell? w _ hw211_1)).trans hw211_1)), (World.cell?_alloc_lt _ _ _ (World.block_lt_of_cell? _ _ (((HB.out.cell (World.block_lt_of_cell? w _ hw211_2)).trans hw211_2)))).trans (((HB.out.cell (World.block_lt_of_cell? w _ hw211_2)).trans hw211_2))⟩ (fun hHeld => ?_)
     clear hK K
     refine norm_ (a' := ?_) ?_ ?_
     rotate_left
     ·show Act.put _ (some 24) _ = _
      simp only [Pst.all]
      rfl
     refine one_ (i := 8) (N := some 25) #[true, true, true, true, true, true, true, true, true, false, false] rfl rfl (one_of HT_.out (by kernel_rfl)) (by decide) (fun K hK => ?_)
     refine Kd.R_append_step k102 (w0 := w) w.heap.size (by rfl) (.tmp 18) (.tmp 24) 35 102 (.agg #[(.int .i64 0), (.int .i64 0), (.int .i64 0)]) 24 rfl Tryz.underlying35 info102 rfl (by decide) (by omega) u211000 x211000_1 (⟨(rd_T102 l0_0 x4_1).f0, (rd_T102 l0_0 x4_1).f1, (rd_T102 l0_0 x4_1).f2⟩ : S102) [.int .i64 ((rd_T102 l0_0 x4_1).f0), .int .i64 ((rd_T102 l0_0 x4_1).f1), .int .i64 ((rd_T102 l0_0 x4_1).f2)] (fun _ => True) (fun _ => False) rfl rfl ?aP (fun _ hk => hk.elim) ?aF ?aO ?aB ?aS ?aL ?_
     (case aP => exact k102_mkM _ _ _ (⟨(rd_T102 l0_0 x4_1).f0, (rd_T102 l0_0 x4_1).f1, (rd_T102 l0_0 x4_1).f2⟩ : S102))
     (case aB => exact Pst.bes)
     (case aF => exact (fun _ _ => trivial))
     (case aO => exact (Pst.qr HO_211000.out))
     (case aS => exact (below_size Pst.bes))
     (case aL => have := LMc12.out; omega)
     intro v213 w17 ho hb hg hat
     rw [← Ny212.out] at ho
     have HO214 := Pst.A ho
     replace BK208 := Pst.A (blk_grown (g := gb208) (o := .cells #[.slice (some ad211) l0_0.length c0_0, .int .i64 a0_1, .int .i64 a0_2] 37 (0, 0)) (Pst.qb BK208.out) hg (Kd.R_ne HO_211000.out BK208.out (by decide)))
     replace BK209 := Pst.A (blk_grown (g := gb209) (o := .cells #[.slice none 0 0, .int .i64 0, .int .i64 0] 37 (0, 0)) (Pst.qb BK209.out) hg (Kd.R_ne HO_211000.out BK209.out (by decide)))
     replace BK210 := Pst.A (blk_grown (g := gb210) (o := .cells #[u211000, .int .i64 a0_1, .int .i64 a0_2] 37 (0, 0)) (Pst.qb BK210.out) hg (Kd.R_ne HO_211000.out BK210.out (by decide)))
     replace HB := Pst.A hb
     clear HO_211000 ho hb hg hat
     obtain ⟨Ao18, co18, eo18⟩ := Kd.R_slice HO214.out
     (first | subst eo18 | (injection eo18 with f1_ f2_ f3_; have f4_ := f1_.symm; have f5_ := f3_.symm; clear f1_ f2_ f3_; subst f4_; subst f5_))
     refine hK.out _ _ ⟨(blk_cell BK210.out 0).trans rfl, (blk_cell BK210.out 1).trans rfl, (blk_cell BK210.out 2).trans rfl, (blk_cell BK208.out 0).trans rfl, (blk_cell BK208.out 1).trans rfl, (blk_cell BK208.out 2).trans rfl, ((HB.out.cell (World.block_lt_of_cell? w _ hw211_0)).trans hw211_0), ((HB.out.cell (World.block_lt_of_cell? w _ hw211_1)).trans hw211_1), ((HB.out.cell (World.block_lt_of_cell? w _ hw211_2)).trans hw211_2)⟩ (fun hHeld => ?_)
     clear hK K
     refine norm_ (a' := ?_) ?_ ?_
     rotate_left
     ·show Act.put _ (some 25) _ = _
      simp only [Pst.all]
      rfl
     refine pure_ (i := 9) (N := some 26) (v := ?_) (a' := ?_) #[true, true, true, true, true, true, true, true, true, true, false] rfl rfl (any_of HT_.out (by kernel_rfl)) (fun _ _ _ h => h) (Or.inl ⟨by rfl, ?_⟩) ?_ ?_
     rotate_left
     ·intro w'
      go_simp
      with_reducible rfl
     rotate_left
     ·simp only [Pst.all]
      rfl
     refine last_ (i := 10) (N := none) #[true, true, true, true, true, true, true, true, true, true, true] rfl rfl (one_of HT_.out (by kernel_rfl)) (by decide) (fun K hK => ?_)
     have hs19 : w17.cell? ⟨gb210, 0, none⟩ = some (u211000) := (blk_cell BK210.out 0).trans rfl
     have hfs19 := blk_frozen BK210.out 0
     have hns19_0 := NB208_210.out
     have hns19_1 := NB209_210.out
     have hms19_0 := NB210_208.out
     have hms19_1 := NB210_209.out
     refine skip_ (w1 := ?_) (by rfl) rfl ?_ ?_
     rotate_left
     ·go_simp
      rfl
     refine hK.out _ _ ?_
     clear hK K
     refine done_ (done_of HT_.out (by kernel_rfl)) ?_
     try go_wp2
     go_roundg k1
     case measure => have := HK1.out; omega
     case rel => exact ⟨(wrap64 (x4_1 + 1)), (y212), (.slice Ao18 y212.length co18), Pst.e2, H', ⟨by have := HK1.out; omega⟩, ⟨by (with_reducible repeat (first | apply Kd.R_alloc | apply Kd.R_drewN | apply Kd.R_drew)); exact Kd.R_mono (Kd.R_far (p := ⟨gb210, 0, none⟩) (Kd.R_types HO214.out BK210.out (by decide)) (fun _ hk => hk.2) (.slice Ao18 y212.length co18)) (fun _ hk => trivial)⟩, ⟨by (with_reducible repeat (first | refine blk_drewN ?_ _ | refine blk_drew ?_ | refine blk_alloc ?_ _)); refine blk_far ?_ NB208_210.out _; exact Pst.qb BK208.out⟩, ⟨by (with_reducible repeat (first | refine blk_drewN ?_ _ | refine blk_drew ?_ | refine blk_alloc ?_ _)); refine blk_far ?_ NB209_210.out _; exact Pst.qb BK209.out⟩, ⟨by (with_reducible repeat (first | refine blk_drewN ?_ _ | refine blk_drew ?_ | refine blk_alloc ?_ _)); refine blk_put (cs := #[u211000, .int .i64 a0_1, .int .i64 a0_2]) ?_ 0 _ rfl; exact Pst.qb BK210.out⟩, ⟨Pst.bes⟩⟩
    rw [if_neg c12] at H
    exact absurd H (by simp)
   rw [if_neg c11] at H
   exact absurd H (by simp)
  rw [if_neg c10] at H
  have c10b0 : decide (x4_1 < (l0_0.length : Int)) = false := decide_eq_false c10
  clear c10
  simp only [Option.some.injEq, Prod.mk.injEq] at H
  obtain ⟨rfl, rfl, rfl⟩ := H
  have hnb20 := NB208_209.out
  have hnc20 := NB209_208.out
  have hnb21 := NB208_210.out
  have hnc21 := NB210_208.out
  obtain ⟨hcz22_0, hcz22_1, hcz22_2⟩ := Pst.c3 BK208.out
  obtain ⟨hfz22_0, hfz22_1, hfz22_2⟩ := Pst.f3 BK208.out
  have hnb23 := NB210_209.out
  have hnc23 := NB209_210.out
  obtain ⟨hcz24_0, hcz24_1, hcz24_2⟩ := Pst.c3 BK210.out
  obtain ⟨hfz24_0, hfz24_1, hfz24_2⟩ := Pst.f3 BK210.out
  obtain ⟨Ao25, co25, eo25⟩ := Kd.R_slice HO_211000.out
  subst eo25
  obtain ⟨hcz26_0, hcz26_1, hcz26_2⟩ := Pst.c3 BK209.out
  obtain ⟨hfz26_0, hfz26_1, hfz26_2⟩ := Pst.f3 BK209.out
  go_wp2
  refine bodyPost_ret (results_cell_row rfl _ _ gb209 37 #[.slice Ao25 x211000_1.length co25, .int .i64 a0_1, .int .i64 a0_2] (0, 0) _ rfl (by (with_reducible repeat (first | refine blk_drewN ?_ _ | refine blk_drew ?_ | refine blk_alloc ?_ _)); refine blk_put (cs := #[.slice Ao25 x211000_1.length co25, .int .i64 a0_1, .int .i64 0]) ?_ 2 _ rfl; (with_reducible repeat (first | refine blk_drewN ?_ _ | refine blk_drew ?_ | refine blk_alloc ?_ _)); refine blk_put (cs := #[.slice Ao25 x211000_1.length co25, .int .i64 0, .int .i64 0]) ?_ 1 _ rfl; (with_reducible repeat (first | refine blk_drewN ?_ _ | refine blk_drew ?_ | refine blk_alloc ?_ _)); refine blk_put (cs := #[.slice none 0 0, .int .i64 0, .int .i64 0]) ?_ 0 _ rfl; exact Pst.qb BK209.out) Tryz.underlying37 rfl (by kernel_rfl)) rfl ?_
  exact ⟨_, Pst.e1, by (with_reducible repeat (first | apply Kd.R_alloc | apply Kd.R_drewN | apply Kd.R_drew)); exact Kd.R_mono (Kd.R_far (p := ⟨gb209, 2, none⟩) (Kd.R_far (p := ⟨gb209, 1, none⟩) (Kd.R_far (p := ⟨gb209, 0, none⟩) (Kd.R_types HO_211000.out BK209.out (by decide)) (fun _ hk => hk.2) (.slice Ao25 x211000_1.length co25)) (fun _ hk => hk.2) (.int .i64 a0_1)) (fun _ hk => hk.2) (.int .i64 a0_2)) (fun _ hk => trivial), Pst.bes⟩
theorem spec_l08Side.l0.st {x4 : Int} {x209000 : List (S102)} {x209001 : Int} {x209002 : Int} {x211000 : List (S102)} {x211001 : Int} {x211002 : Int} {r : ((List (S102)) × Int × Int)} (H : Ev (fun k => if x4 < (x209000.length : Int) then (if 0 ≤ x4 then (if x211000.length < 5864062014805 then (spec_l08Side.l0 k (wrap64 (x4 + 1)) x209000 x209001 x209002 (x211000 ++ [(⟨(rd_T102 x209000 x4).f0, (rd_T102 x209000 x4).f1, (rd_T102 x209000 x4).f2⟩ : S102)]) x211001 x211002) else (none)) else (none)) else (some (x211000, x211001, x211002))) r) : Ev (fun k => spec_l08Side.l0 k x4 x209000 x209001 x209002 x211000 x211001 x211002) r := Ev.step (fun k => spec_l08Side.l0.eq_2 x4 x209000 x209001 x209002 x211000 x211001 x211002 k) H

/-! ### spec_l08Setup: function 17 -/
abbrev q0_17 : Array Bool := #[false, false, false, false, false, false, false, false, false, false, false, false, false, false, false, false, false, false, false, false]
abbrev q1_17 : Array Bool := #[true, false, false, false, false, false, false, false, false, false, false, false, false, false, false, false, false, false, false, false]
abbrev q2_17 : Array Bool := #[true, false, true, false, false, false, false, false, false, false, false, false, false, false, false, false, false, false, false, false]
abbrev q3_17 : Array Bool := #[true, false, true, true, false, false, false, false, false, false, false, false, false, false, false, false, false, false, false, false]
abbrev q4_17 : Array Bool := #[true, false, true, true, false, false, true, false, false, false, false, false, false, false, false, false, false, false, false, false]
abbrev q5_17 : Array Bool := #[true, false, true, true, false, false, true, true, false, false, false, false, false, false, false, false, false, false, false, false]
abbrev q6_17 : Array Bool := #[true, false, true, true, false, false, true, true, false, false, true, false, false, false, false, false, false, false, false, false]
abbrev q7_17 : Array Bool := #[true, false, true, true, false, false, true, true, false, false, true, true, false, false, false, false, false, false, false, false]
abbrev q8_17 : Array Bool := #[true, false, true, true, false, false, true, true, false, false, true, true, false, true, false, false, false, false, false, false]
abbrev q9_17 : Array Bool := #[true, false, true, true, false, false, true, true, false, false, true, true, false, true, true, false, false, false, false, false]
abbrev q10_17 : Array Bool := #[true, true, true, true, false, false, true, true, false, false, true, true, false, true, true, false, false, false, false, false]
abbrev q11_17 : Array Bool := #[true, true, true, true, true, false, true, true, false, false, true, true, false, true, true, false, false, false, false, false]
abbrev q12_17 : Array Bool := #[true, true, true, true, true, false, true, true, true, false, true, true, false, true, true, false, false, false, false, false]
abbrev q13_17 : Array Bool := #[true, true, true, true, true, false, true, true, true, false, true, true, true, true, true, false, false, false, false, false]
abbrev q14_17 : Array Bool := #[true, true, true, true, true, false, true, true, true, false, true, true, true, true, true, true, false, false, false, false]
abbrev q15_17 : Array Bool := #[true, true, true, true, true, true, true, true, true, true, true, true, true, true, true, true, true, true, true, false]
abbrev q16_17 : Array Bool := #[true, true, true, true, true, true, true, true, true, false, true, true, true, true, true, true, false, false, false, false]
abbrev q17_17 : Array Bool := #[true, true, true, true, true, false, true, true, true, false, true, true, true, true, true, true, false, false, true, false]
abbrev q18_17 : Array Bool := #[true, true, true, true, true, true, true, true, true, true, true, true, true, true, true, true, false, false, false, false]
abbrev q19_17 : Array Bool := #[true, true, true, true, true, true, true, true, true, false, true, true, true, true, true, true, false, false, true, false]
abbrev q20_17 : Array Bool := #[true, true, true, true, true, true, true, true, true, true, true, true, true, true, true, true, true, false, false, false]
abbrev q21_17 : Array Bool := #[true, true, true, true, true, true, true, true, true, true, true, true, true, true, true, true, true, true, false, false]
abbrev q22_17 : Array Bool := #[true, true, true, true, true, true, true, true, true, true, true, true, true, true, true, true, false, false, true, false]
abbrev q23_17 : Array Bool := #[true, true, true, true, true, true, true, true, true, true, true, true, true, true, true, true, true, false, true, false]
abbrev q24_17 : Array Bool := #[true, true, true, true, true, true, true, true, true, true, true, true, true, true, true, true, true, true, true, true]
def spec_l08Setup.l0 : Nat → Int → Int → Int → Int → List (S82) → List (S102) → Int → Int → List (S102) → Int → Int → Int → Int → Int → Int → Int → List (S82) → List (S102) → Int → Int → List (S102) → Int → Int → Int → Int → Option (Int × Int × Int × (List (S82)) × (List (S102)) × Int × Int × (List (S102)) × Int × Int × Int × Int)
 | 0, _, _, _, _, _, _, _, _, _, _, _, _, _, _, _, _, _, _, _, _, _, _, _, _, _ => none
 | k + 1, x4, x216000, x216001, x216002, x216003, x216004, x216005, x216006, x216007, x216008, x216009, x216010, x216011, x228000, x228001, x228002, x228003, x228004, x228005, x228006, x228007, x228008, x228009, x228010, x228011 => if x4 < (x216003.length : Int) then (if 0 ≤ x4 then (if x228003.length < 4398046511104 then (spec_l08Setup.l0 k (wrap64 (x4 + 1)) x216000 x216001 x216002 x216003 x216004 x216005 x216006 x216007 x216008 x216009 x216010 x216011 x228000 x228001 x228002 (x228003 ++ [(⟨(rd_T82 x216003 x4).f0, (rd_T82 x216003 x4).f1, (rd_T82 x216003 x4).f2⟩ : S82)]) x228004 x228005 x228006 x228007 x228008 x228009 x228010 x228011) else (none)) else (none)) else (some (x228000, x228001, x228002, x228003, x228004, x228005, x228006, x228007, x228008, x228009, x228010, x228011))
def spec_l08Setup.f (k : Nat) (a0_0 : Int) (a0_1 : Int) (a0_2 : Int) (l0_3 : List (S82)) (l0_4 : List (S102)) (a0_5 : Int) (a0_6 : Int) (l0_7 : List (S102)) (a0_8 : Int) (a0_9 : Int) (a0_10 : Int) (a0_11 : Int) : Option (Int × Int × Int × (List (S82)) × (List (S102)) × Int × Int × (List (S102)) × Int × Int × Int × Int) := (spec_l08Side.f k l0_4 a0_5 a0_6).bind fun bt217 => ((spec_l08Side.f k l0_7 a0_8 a0_9).bind fun bt222 => (spec_l08Setup.l0 k 0 a0_0 a0_1 a0_2 l0_3 l0_4 a0_5 a0_6 l0_7 a0_8 a0_9 a0_10 a0_11 a0_0 a0_1 a0_2 ([] : List (S82)) bt217.1 bt217.2.1 bt217.2.2 bt222.1 bt222.2.1 bt222.2.2 a0_10 a0_11))
theorem spec_l08Setup.mono_l : ∀ k, (∀ y0 y1 y2 y3 y4 y5 y6 y7 y8 y9 y10 y11 y12 y13 y14 y15 y16 y17 y18 y19 y20 y21 y22 y23 y24, LeO (spec_l08Setup.l0 k y0 y1 y2 y3 y4 y5 y6 y7 y8 y9 y10 y11 y12 y13 y14 y15 y16 y17 y18 y19 y20 y21 y22 y23 y24) (spec_l08Setup.l0 (k + 1) y0 y1 y2 y3 y4 y5 y6 y7 y8 y9 y10 y11 y12 y13 y14 y15 y16 y17 y18 y19 y20 y21 y22 y23 y24))
 | 0 => fun _ _ _ _ _ _ _ _ _ _ _ _ _ _ _ _ _ _ _ _ _ _ _ _ _ r h => by simp [spec_l08Setup.l0] at h
 | k + 1 => by
  have ih0 := spec_l08Setup.mono_l k
  intro y0 y1 y2 y3 y4 y5 y6 y7 y8 y9 y10 y11 y12 y13 y14 y15 y16 y17 y18 y19 y20 y21 y22 y23 y24
  unfold spec_l08Setup.l0
  have m0 := @spec_l08Side.mono
  exact Pst.mo
theorem spec_l08Setup.mono : ∀ a0 a1 a2 a3 a4 a5 a6 a7 a8 a9 a10 a11 k, LeO (spec_l08Setup.f k a0 a1 a2 a3 a4 a5 a6 a7 a8 a9 a10 a11) (spec_l08Setup.f (k + 1) a0 a1 a2 a3 a4 a5 a6 a7 a8 a9 a10 a11) := by
 intro a0 a1 a2 a3 a4 a5 a6 a7 a8 a9 a10 a11 k
 have ih0 := spec_l08Setup.mono_l k
 unfold spec_l08Setup.f
 have m0 := @spec_l08Side.mono
 exact Pst.mo
def spec_l08Setup.T1 : Bool × List (List Nat × List Nat) := (true, [([], []), ([0], [0]), ([], []), ([2], [2]), ([3], [3]), ([4], [4]), ([], []), ([6], [6]), ([7], [7]), ([8, 5], [8]), ([], []), ([10], [10]), ([11], [11]), ([], []), ([13], [13]), ([14], [14]), ([5, 9, 12, 15], [5, 9, 12, 15]), ([1, 16], [1, 16]), ([], []), ([18, 17, 9, 0, 1, 2, 3, 4, 5, 6, 7, 8, 9, 10, 11, 12, 13, 14, 15, 16, 17, 18], [17, 18])])
def spec_l08Setup.B1 : List Nat := [0, 1, 0, 4, 12, 28, 0, 64, 192, 508, 0, 1024, 3072, 0, 8192, 24576, 65532, 131071, 0, 524287]
theorem spec_l08Setup.tab1 : rtab .any (opsOf Tryz.f17 1) = spec_l08Setup.T1 := by kernel_rfl
theorem spec_l08Setup.bits1 : waitsOk spec_l08Setup.T1.2 spec_l08Setup.B1 = true := by kernel_rfl
def spec_l08Setup.T5 : Bool × List (List Nat × List Nat) := (true, [([], []), ([0], [0]), ([], []), ([2], [2]), ([], []), ([3, 4], [3, 4]), ([5], [5]), ([6], [6]), ([1, 7], [1, 7]), ([0, 1, 2, 3, 4, 5, 6, 7, 8], []), ([9, 8, 8, 0, 1, 2, 3, 4, 5, 6, 7, 8], [8, 9])])
def spec_l08Setup.B5 : List Nat := [0, 1, 0, 4, 0, 28, 60, 124, 255, 511, 1023]
theorem spec_l08Setup.tab5 : rtab .any (opsOf Tryz.f17 5) = spec_l08Setup.T5 := by kernel_rfl
theorem spec_l08Setup.bits5 : waitsOk spec_l08Setup.T5.2 spec_l08Setup.B5 = true := by kernel_rfl
theorem spec_l08Setup.calls (k : Nat) (a0_0 : Int) (a0_1 : Int) (a0_2 : Int) (A0_3 : Option Addr) (c0_3 : Nat) (l0_3 : List (S82)) (A0_4 : Option Addr) (c0_4 : Nat) (l0_4 : List (S102)) (a0_5 : Int) (a0_6 : Int) (A0_7 : Option Addr) (c0_7 : Nat) (l0_7 : List (S102)) (a0_8 : Int) (a0_9 : Int) (a0_10 : Int) (a0_11 : Int) (r1 : Int) (r2 : Int) (r3 : Int) (r4 : List (S82)) (r5 : List (S102)) (r6 : Int) (r7 : Int) (r8 : List (S102)) (r9 : Int) (r10 : Int) (r11 : Int) (r12 : Int) (w : World) (hr0_3 : Kd.C k82 w A0_3 l0_3.length l0_3) (hc0_3 : l0_3.length ≤ c0_3) (hr0_4 : Kd.C k102 w A0_4 l0_4.length l0_4) (hc0_4 : l0_4.length ≤ c0_4) (hr0_7 : Kd.C k102 w A0_7 l0_7.length l0_7) (hc0_7 : l0_7.length ≤ c0_7) (h : spec_l08Setup.f k a0_0 a0_1 a0_2 l0_3 l0_4 a0_5 a0_6 l0_7 a0_8 a0_9 a0_10 a0_11 = some (r1, r2, r3, r4, r5, r6, r7, r8, r9, r10, r11, r12)) :
 Calls Tryz.prog 17 #[.agg #[.int .i64 a0_0, .int .i64 a0_1, .int .i64 a0_2, .slice A0_3 l0_3.length c0_3, .slice A0_4 l0_4.length c0_4, .int .i64 a0_5, .int .i64 a0_6, .slice A0_7 l0_7.length c0_7, .int .i64 a0_8, .int .i64 a0_9, .int .i64 a0_10, .int .i64 a0_11]] w fun e w' => ∃ v3_ v4_ v7_ : Value, e = .returned (.agg #[.int .i64 r1, .int .i64 r2, .int .i64 r3, v3_, v4_, .int .i64 r6, .int .i64 r7, v7_, .int .i64 r9, .int .i64 r10, .int .i64 r11, .int .i64 r12]) ∧ Kd.R k82 82 w' w.heap.size (fun _ => True) v3_ r4 ∧ Kd.R k102 102 w' w.heap.size (fun k_ => some k_ ≠ (v7_ : Value).ownBlock) v4_ r5 ∧ Kd.R k102 102 w' w.heap.size (fun k_ => some k_ ≠ (v4_ : Value).ownBlock) v7_ r8 ∧ Below w.heap.size w w' := by
 have hu41 := Tryz.underlying41
 have hu33 := Tryz.underlying33
 have hu37 := Tryz.underlying37
 have hu39 := Tryz.underlying39
 have hu82 := Tryz.underlying82
 have HR0_3 := Pst.A hr0_3
 have HC0_3 := Pst.A hc0_3
 clear hr0_3 hc0_3
 have HR0_4 := Pst.A hr0_4
 have HC0_4 := Pst.A hc0_4
 clear hr0_4 hc0_4
 have HR0_7 := Pst.A hr0_7
 have HC0_7 := Pst.A hc0_7
 clear hr0_7 hc0_7
 have HB := Pst.A (Below.refl w.heap.size w)
 have H : ((spec_l08Side.f k l0_4 a0_5 a0_6).bind fun bt217 => ((spec_l08Side.f k l0_7 a0_8 a0_9).bind fun bt222 => (spec_l08Setup.l0 k 0 a0_0 a0_1 a0_2 l0_3 l0_4 a0_5 a0_6 l0_7 a0_8 a0_9 a0_10 a0_11 a0_0 a0_1 a0_2 ([] : List (S82)) bt217.1 bt217.2.1 bt217.2.2 bt222.1 bt222.2.1 bt222.2.2 a0_10 a0_11))) = some (r1, r2, r3, r4, r5, r6, r7, r8, r9, r10, r11, r12) := h
 clear h
 obtain ⟨⟨t217, t220, t221⟩, A20, H⟩ := Pst.bd H
 replace H : ((spec_l08Side.f k l0_7 a0_8 a0_9).bind fun bt222 => (spec_l08Setup.l0 k 0 a0_0 a0_1 a0_2 l0_3 l0_4 a0_5 a0_6 l0_7 a0_8 a0_9 a0_10 a0_11 a0_0 a0_1 a0_2 ([] : List (S82)) t217 t220 t221 bt222.1 bt222.2.1 bt222.2.2 a0_10 a0_11)) = some (r1, r2, r3, r4, r5, r6, r7, r8, r9, r10, r11, r12) := H
 have A2 := Pst.A A20
 clear A20
 obtain ⟨⟨t222, t225, t226⟩, A30, H⟩ := Pst.bd H
 replace H : (spec_l08Setup.l0 k 0 a0_0 a0_1 a0_2 l0_3 l0_4 a0_5 a0_6 l0_7 a0_8 a0_9 a0_10 a0_11 a0_0 a0_1 a0_2 ([] : List (S82)) t217 t220 t221 t222 t225 t226 a0_10 a0_11) = some (r1, r2, r3, r4, r5, r6, r7, r8, r9, r10, r11, r12) := H
 have A3 := Pst.A A30
 clear A30
 have H' := Pst.A H
 clear H
 go_enter Tryz.func17, Tryz.ntmps17
 try go_wp2_with (first | ((with_reducible refine gate_dst (N := 1) rfl ?_); refine Pst.bx 1 #[.int .i64 a0_0, .int .i64 a0_1, .int .i64 a0_2, .slice A0_3 l0_3.length c0_3, .slice A0_4 l0_4.length c0_4, .int .i64 a0_5, .int .i64 a0_6, .slice A0_7 l0_7.length c0_7, .int .i64 a0_8, .int .i64 a0_9, .int .i64 a0_10, .int .i64 a0_11] 41 ?_; intro gb215 hg w4 hbox hb; have BK215 := Pst.A hbox; have GW215 := Pst.A (Pst.gs hg : w.heap.size ≤ gb215); have GE215 := Pst.A (Pst.gs hg : w.heap.size ≤ gb215); replace HB := Pst.A (below_step Pst.bel hb); clear hb hbox hg) | ((with_reducible refine gate_dst (N := 2) rfl ?_); refine Pst.bx 2 #[.int .i64 0, .int .i64 0, .int .i64 0, .slice none 0 0, .slice none 0 0, .int .i64 0, .int .i64 0, .slice none 0 0, .int .i64 0, .int .i64 0, .int .i64 0, .int .i64 0] 41 ?_; intro gb216 hg w5 hbox hb; have BK216 := Pst.A hbox; have GW216 := Pst.A (Pst.gs hg : w.heap.size ≤ gb216); have GE216 := Pst.A (Pst.gs hg : w.heap.size ≤ gb216); have NB215_216 := Pst.A (Pst.nl BK215.out hg); have NB216_215 := Pst.A (Pst.nr BK215.out hg); replace BK215 := Pst.A (Pst.kb BK215.out hb); replace HB := Pst.A (below_step Pst.bes hb); clear hb hbox hg))
 replace BK215 := Pst.A (blk_drew BK215.out)
 replace BK216 := Pst.A (blk_drew BK216.out)
 replace HB := Pst.A (below_drew1 HB.out)
 refine start_ (n := 20) (S := fun w' => w'.cell? ⟨gb215, 0, none⟩ = some (.int .i64 a0_0) ∧ w'.cell? ⟨gb215, 1, none⟩ = some (.int .i64 a0_1) ∧ w'.cell? ⟨gb215, 2, none⟩ = some (.int .i64 a0_2) ∧ w'.cell? ⟨gb215, 3, none⟩ = some (.slice A0_3 l0_3.length c0_3) ∧ w'.cell? ⟨gb215, 4, none⟩ = some (.slice A0_4 l0_4.length c0_4) ∧ w'.cell? ⟨gb215, 5, none⟩ = some (.int .i64 a0_5) ∧ w'.cell? ⟨gb215, 6, none⟩ = some (.int .i64 a0_6) ∧ w'.cell? ⟨gb215, 7, none⟩ = some (.slice A0_7 l0_7.length c0_7) ∧ w'.cell? ⟨gb215, 8, none⟩ = some (.int .i64 a0_8) ∧ w'.cell? ⟨gb215, 9, none⟩ = some (.int .i64 a0_9) ∧ w'.cell? ⟨gb215, 10, none⟩ = some (.int .i64 a0_10) ∧ w'.cell? ⟨gb215, 11, none⟩ = some (.int .i64 a0_11)) (ds := []) q0_17 (by kernel_rfl) rfl rfl ⟨(blk_cell BK215.out 0).trans rfl, (blk_cell BK215.out 1).trans rfl, (blk_cell BK215.out 2).trans rfl, (blk_cell BK215.out 3).trans rfl, (blk_cell BK215.out 4).trans rfl, (blk_cell BK215.out 5).trans rfl, (blk_cell BK215.out 6).trans rfl, (blk_cell BK215.out 7).trans rfl, (blk_cell BK215.out 8).trans rfl, (blk_cell BK215.out 9).trans rfl, (blk_cell BK215.out 10).trans rfl, (blk_cell BK215.out 11).trans rfl⟩ (fun hHeld => ?_); refine with_tabW spec_l08Setup.tab1 spec_l08Setup.bits1 (fun HT_ HW_ => ?_)
 generalize w5.drew = w6 at BK215 BK216 HB hHeld ⊢
 refine pure_ (i := 0) (N := some 5) (v := ?_) (a' := ?_) q1_17 rfl rfl (any_of HT_.out (by kernel_rfl)) (fun _ _ _ h => h) (Or.inl ⟨by rfl, ?_⟩) ?_ ?_
 rotate_left
 ·intro w'
  go_simp
  with_reducible rfl
 rotate_left
 ·simp only [Pst.all]
  rfl
 refine pure_ (i := 2) (N := some 7) (v := ?_) (a' := ?_) q2_17 rfl rfl (any_of HT_.out (by kernel_rfl)) (fun _ _ _ h => h) (Or.inl ⟨by rfl, ?_⟩) ?_ ?_
 rotate_left
 ·intro w'
  go_simp
  with_reducible rfl
 rotate_left
 ·simp only [Pst.all]
  rfl
 refine pure_ (i := 3) (N := some 8) (v := ?_) (a' := ?_) q3_17 rfl rfl (any_of HT_.out (by kernel_rfl)) (fun _ _ _ h => h) (Or.inl ⟨by rfl, ?_⟩) ?_ ?_
 rotate_left
 ·intro w'
  go_simp
  with_reducible rfl
 rotate_left
 ·simp only [Pst.all]
  rfl
 refine pure_ (i := 6) (N := some 11) (v := ?_) (a' := ?_) q4_17 rfl rfl (any_of HT_.out (by kernel_rfl)) (fun _ _ _ h => h) (Or.inl ⟨by rfl, ?_⟩) ?_ ?_
 rotate_left
 ·intro w'
  go_simp
  with_reducible rfl
 rotate_left
 ·simp only [Pst.all]
  rfl
 refine pure_ (i := 7) (N := some 12) (v := ?_) (a' := ?_) q5_17 rfl rfl (any_of HT_.out (by kernel_rfl)) (fun _ _ _ h => h) (Or.inl ⟨by rfl, ?_⟩) ?_ ?_
 rotate_left
 ·intro w'
  go_simp
  with_reducible rfl
 rotate_left
 ·simp only [Pst.all]
  rfl
 refine pure_ (i := 10) (N := some 15) (v := ?_) (a' := ?_) q6_17 rfl rfl (any_of HT_.out (by kernel_rfl)) (fun _ _ _ h => h) (Or.inl ⟨by rfl, ?_⟩) ?_ ?_
 rotate_left
 ·intro w'
  go_simp
  with_reducible rfl
 rotate_left
 ·simp only [Pst.all]
  rfl
 refine pure_ (i := 11) (N := some 16) (v := ?_) (a' := ?_) q7_17 rfl rfl (any_of HT_.out (by kernel_rfl)) (fun _ _ _ h => h) (Or.inl ⟨by rfl, ?_⟩) ?_ ?_
 rotate_left
 ·intro w'
  go_simp
  with_reducible rfl
 rotate_left
 ·simp only [Pst.all]
  rfl
 refine pure_ (i := 13) (N := some 18) (v := ?_) (a' := ?_) q8_17 rfl rfl (any_of HT_.out (by kernel_rfl)) (fun _ _ _ h => h) (Or.inl ⟨by rfl, ?_⟩) ?_ ?_
 rotate_left
 ·intro w'
  go_simp
  with_reducible rfl
 rotate_left
 ·simp only [Pst.all]
  rfl
 refine pure_ (i := 14) (N := some 19) (v := ?_) (a' := ?_) q9_17 rfl rfl (any_of HT_.out (by kernel_rfl)) (fun _ _ _ h => h) (Or.inl ⟨by rfl, ?_⟩) ?_ ?_
 rotate_left
 ·intro w'
  go_simp
  with_reducible rfl
 rotate_left
 ·simp only [Pst.all]
  rfl
 refine take_ (i := 1) (N := some 6) (v := ?_) (a' := ?_) q10_17 rfl rfl (take_ofW HT_.out HW_.out (by kernel_rfl)) (fun _ _ _ h => h) (Or.inl ⟨by rfl, ?_⟩) hHeld ?_ ?_
 rotate_left
 ·rintro w' ⟨s0, s1, s2, s3, s4, s5, s6, s7, s8, s9, s10, s11⟩
  go_simp
  with_reducible rfl
 rotate_left
 ·simp only [Pst.all]
  rfl
 refine take_ (i := 4) (N := some 9) (v := ?_) (a' := ?_) q11_17 rfl rfl (take_ofW HT_.out HW_.out (by kernel_rfl)) (fun _ _ _ h => h) (Or.inl ⟨by rfl, ?_⟩) hHeld ?_ ?_
 rotate_left
 ·rintro w' ⟨s0, s1, s2, s3, s4, s5, s6, s7, s8, s9, s10, s11⟩
  go_simp
  with_reducible rfl
 rotate_left
 ·simp only [Pst.all]
  rfl
 refine take_ (i := 8) (N := some 13) (v := ?_) (a' := ?_) q12_17 rfl rfl (take_ofW HT_.out HW_.out (by kernel_rfl)) (fun _ _ _ h => h) (Or.inl ⟨by rfl, ?_⟩) hHeld ?_ ?_
 rotate_left
 ·rintro w' ⟨s0, s1, s2, s3, s4, s5, s6, s7, s8, s9, s10, s11⟩
  go_simp
  with_reducible rfl
 rotate_left
 ·simp only [Pst.all]
  rfl
 refine take_ (i := 12) (N := some 17) (v := ?_) (a' := ?_) q13_17 rfl rfl (take_ofW HT_.out HW_.out (by kernel_rfl)) (fun _ _ _ h => h) (Or.inl ⟨by rfl, ?_⟩) hHeld ?_ ?_
 rotate_left
 ·rintro w' ⟨s0, s1, s2, s3, s4, s5, s6, s7, s8, s9, s10, s11⟩
  go_simp
  with_reducible rfl
 rotate_left
 ·simp only [Pst.all]
  rfl
 refine take_ (i := 15) (N := some 20) (v := ?_) (a' := ?_) q14_17 rfl rfl (take_ofW HT_.out HW_.out (by kernel_rfl)) (fun _ _ _ h => h) (Or.inl ⟨by rfl, ?_⟩) hHeld ?_ ?_
 rotate_left
 ·rintro w' ⟨s0, s1, s2, s3, s4, s5, s6, s7, s8, s9, s10, s11⟩
  go_simp
  with_reducible rfl
 rotate_left
 ·simp only [Pst.all]
  rfl
 refine join_ (σ := Value × Value × Nat) 1 q15_17 (fun s_ => [(10, .agg #[s_.1, .int .i64 t220, .int .i64 t221]), (14, .agg #[s_.2.1, .int .i64 t225, .int .i64 t226]), (3, .pointer (some ⟨s_.2.2, 0, none⟩)), (21, .agg #[s_.1, .int .i64 t220, .int .i64 t221, s_.2.1, .int .i64 t225, .int .i64 t226, .int .i64 a0_10, .int .i64 a0_11]), (22, .agg #[.int .i64 a0_0, .int .i64 a0_1, .int .i64 a0_2, .slice none 0 0, s_.1, .int .i64 t220, .int .i64 t221, s_.2.1, .int .i64 t225, .int .i64 t226, .int .i64 a0_10, .int .i64 a0_11])]) (fun s_ w' => (w'.cell? ⟨gb215, 0, none⟩ = some (.int .i64 a0_0) ∧ w'.cell? ⟨gb215, 1, none⟩ = some (.int .i64 a0_1) ∧ w'.cell? ⟨gb215, 2, none⟩ = some (.int .i64 a0_2) ∧ w'.cell? ⟨gb215, 3, none⟩ = some (.slice A0_3 l0_3.length c0_3) ∧ w'.cell? ⟨gb215, 4, none⟩ = some (.slice A0_4 l0_4.length c0_4) ∧ w'.cell? ⟨gb215, 5, none⟩ = some (.int .i64 a0_5) ∧ w'.cell? ⟨gb215, 6, none⟩ = some (.int .i64 a0_6) ∧ w'.cell? ⟨gb215, 7, none⟩ = some (.slice A0_7 l0_7.length c0_7) ∧ w'.cell? ⟨gb215, 8, none⟩ = some (.int .i64 a0_8) ∧ w'.cell? ⟨gb215, 9, none⟩ = some (.int .i64 a0_9) ∧ w'.cell? ⟨gb215, 10, none⟩ = some (.int .i64 a0_10) ∧ w'.cell? ⟨gb215, 11, none⟩ = some (.int .i64 a0_11)) ∧ (Kd.R k102 102 w' w.heap.size (fun k_ => some k_ ≠ (s_.2.1 : Value).ownBlock) s_.1 t217) ∧ (Kd.R k102 102 w' w.heap.size (fun k_ => some k_ ≠ (s_.1 : Value).ownBlock) s_.2.1 t222) ∧ (w'.heap[gb215]? = some (.cells #[.int .i64 a0_0, .int .i64 a0_1, .int .i64 a0_2, .slice A0_3 l0_3.length c0_3, .slice A0_4 l0_4.length c0_4, .int .i64 a0_5, .int .i64 a0_6, .slice A0_7 l0_7.length c0_7, .int .i64 a0_8, .int .i64 a0_9, .int .i64 a0_10, .int .i64 a0_11] 41 (0, 0))) ∧ (w'.heap[gb216]? = some (.cells #[.int .i64 0, .int .i64 0, .int .i64 0, .slice none 0 0, .slice none 0 0, .int .i64 0, .int .i64 0, .slice none 0 0, .int .i64 0, .int .i64 0, .int .i64 0, .int .i64 0] 41 (0, 0))) ∧ (w'.heap[s_.2.2]? = some (.cells #[.int .i64 0, .int .i64 0, .int .i64 0, .slice none 0 0, .slice none 0 0, .int .i64 0, .int .i64 0, .slice none 0 0, .int .i64 0, .int .i64 0, .int .i64 0, .int .i64 0] 41 (0, 0))) ∧ (w.heap.size ≤ s_.2.2) ∧ (w.heap.size ≤ s_.2.2) ∧ (gb215 ≠ s_.2.2) ∧ (s_.2.2 ≠ gb215) ∧ (gb216 ≠ s_.2.2) ∧ (s_.2.2 ≠ gb216) ∧ (Below w.heap.size w w')) ?_ ?_
 rotate_left
 ·intro hCont
  refine two_ (i := 5) (j := 18) (Ni := some 10) (Nj := some 3) q16_17 q17_17 rfl rfl rfl rfl (two_of HT_.out (by kernel_rfl)) (by decide) (by decide) (fun K hK => ?_) (fun K hK => ?_)
  ·skip
   refine goes_ Tryz.func44 (by kernel_rfl) rfl #[.agg #[.slice A0_4 l0_4.length c0_4, .int .i64 a0_5, .int .i64 a0_6]] (by rfl) rfl rfl Pst.ga ?_
   with_reducible refine (spec_l08Side.calls k _ _ l0_4 a0_5 a0_6 t217 t220 t221 _ ?side1 ?side2 A2.out).mono ?_
   (case side1 => exact Pst.qc (Kd.C_below HR0_4.out HB.out))
   (case side2 => exact HC0_4.out)
   rintro e w7 ⟨v218, rfl, ho0, hb⟩
   refine ⟨_, rfl, ?_⟩
   have HO219 := Pst.A (Kd.R_lower ho0 (below_size Pst.bes))
   replace BK215 := Pst.A (Pst.kb BK215.out hb)
   replace BK216 := Pst.A (Pst.kb BK216.out hb)
   replace HB := Pst.A (below_step Pst.bes hb)
   (try clear hb)
   (try clear hb2)
   (try clear hk)
   (try clear hi)
   (try clear ho0)
   refine hK.out _ _ ⟨(blk_cell BK215.out 0).trans rfl, (blk_cell BK215.out 1).trans rfl, (blk_cell BK215.out 2).trans rfl, (blk_cell BK215.out 3).trans rfl, (blk_cell BK215.out 4).trans rfl, (blk_cell BK215.out 5).trans rfl, (blk_cell BK215.out 6).trans rfl, (blk_cell BK215.out 7).trans rfl, (blk_cell BK215.out 8).trans rfl, (blk_cell BK215.out 9).trans rfl, (blk_cell BK215.out 10).trans rfl, (blk_cell BK215.out 11).trans rfl⟩ (fun hHeld => ?_)
   clear hK K
   refine norm_ (a' := ?_) ?_ ?_
   rotate_left
   ·show Act.put _ (some 10) _ = _
    simp only [Pst.all]
    rfl
   refine two_ (i := 9) (j := 18) (Ni := some 14) (Nj := some 3) q18_17 q19_17 rfl rfl rfl rfl (two_of HT_.out (by kernel_rfl)) (by decide) (by decide) (fun K hK => ?_) (fun K hK => ?_)
   ·skip
    refine goes_ Tryz.func44 (by kernel_rfl) rfl #[.agg #[.slice A0_7 l0_7.length c0_7, .int .i64 a0_8, .int .i64 a0_9]] (by rfl) rfl rfl Pst.ga ?_
    with_reducible refine (spec_l08Side.calls k _ _ l0_7 a0_8 a0_9 t222 t225 t226 _ ?side1 ?side2 A3.out).mono ?_
    (case side1 => exact Pst.qc (Kd.C_below HR0_7.out HB.out))
    (case side2 => exact HC0_7.out)
    rintro e w8 ⟨v223, rfl, ho0, hb⟩
    refine ⟨_, rfl, ?_⟩
    have HO224 := Pst.A (Kd.R_lower (Kd.R_new' ho0 (Kd.R_lt (Pst.qr HO219.out))) (below_size Pst.bes))
    replace HO219 := Pst.A (Kd.R_elder' (Pst.qr HO219.out) (Kd.R_base ho0) hb)
    replace BK215 := Pst.A (Pst.kb BK215.out hb)
    replace BK216 := Pst.A (Pst.kb BK216.out hb)
    replace HB := Pst.A (below_step Pst.bes hb)
    (try clear hb)
    (try clear hb2)
    (try clear hk)
    (try clear hi)
    (try clear ho0)
    obtain ⟨Ao9, co9, eo9⟩ := Kd.R_slice HO224.out
    (first | subst eo9 | (injection eo9 with f1_ f2_ f3_; have f4_ := f1_.symm; have f5_ := f3_.symm; clear f1_ f2_ f3_; subst f4_; subst f5_))
    obtain ⟨Ao10, co10, eo10⟩ := Kd.R_slice HO219.out
    (first | subst eo10 | (injection eo10 with f1_ f2_ f3_; have f4_ := f1_.symm; have f5_ := f3_.symm; clear f1_ f2_ f3_; subst f4_; subst f5_))
    refine hK.out _ _ ⟨(blk_cell BK215.out 0).trans rfl, (blk_cell BK215.out 1).trans rfl, (blk_cell BK215.out 2).trans rfl, (blk_cell BK215.out 3).trans rfl, (blk_cell BK215.out 4).trans rfl, (blk_cell BK215.out 5).trans rfl, (blk_cell BK215.out 6).trans rfl, (blk_cell BK215.out 7).trans rfl, (blk_cell BK215.out 8).trans rfl, (blk_cell BK215.out 9).trans rfl, (blk_cell BK215.out 10).trans rfl, (blk_cell BK215.out 11).trans rfl⟩ (fun hHeld => ?_)
    clear hK K
    refine norm_ (a' := ?_) ?_ ?_
    rotate_left
    ·show Act.put _ (some 14) _ = _
     simp only [Pst.all]
     rfl
    refine pure_ (i := 16) (N := some 21) (v := ?_) (a' := ?_) q20_17 rfl rfl (any_of HT_.out (by kernel_rfl)) (fun _ _ _ h => h) (Or.inl ⟨by rfl, ?_⟩) ?_ ?_
    rotate_left
    ·intro w'
     go_simp
     with_reducible rfl
    rotate_left
    ·simp only [Pst.all]
     rfl
    refine pure_ (i := 17) (N := some 22) (v := ?_) (a' := ?_) q21_17 rfl rfl (any_of HT_.out (by kernel_rfl)) (fun _ _ _ h => h) (Or.inl ⟨by rfl, ?_⟩) ?_ ?_
    rotate_left
    ·intro w'
     go_simp
     with_reducible rfl
    rotate_left
    ·simp only [Pst.all]
     rfl
    refine one_ (i := 18) (N := some 3) q15_17 rfl rfl (one_of HT_.out (by kernel_rfl)) (by decide) (fun K hK => ?_)
    refine box_step ?hg (N := 3) ?hd (cs := #[.int .i64 0, .int .i64 0, .int .i64 0, .slice none 0 0, .slice none 0 0, .int .i64 0, .int .i64 0, .slice none 0 0, .int .i64 0, .int .i64 0, .int .i64 0, .int .i64 0]) (t := 41) ?hr ?_; (case hd => rfl); (case hg => rfl); (case hr => exact Pst.gr)
    intro gb227 hg w11 hbox hb
    have BK227 := Pst.A hbox
    have GW227 := Pst.A (Pst.gs hg : w.heap.size ≤ gb227)
    have GE227 := Pst.A (Pst.gs hg : w.heap.size ≤ gb227)
    have NB215_227 := Pst.A (Pst.nl BK215.out hg)
    have NB227_215 := Pst.A (Pst.nr BK215.out hg)
    have NB216_227 := Pst.A (Pst.nl BK216.out hg)
    have NB227_216 := Pst.A (Pst.nr BK216.out hg)
    replace HO219 := Pst.A (Kd.R_below (Pst.qr HO219.out) hb)
    replace HO224 := Pst.A (Kd.R_below (Pst.qr HO224.out) hb)
    replace BK215 := Pst.A (Pst.kb BK215.out hb)
    replace BK216 := Pst.A (Pst.kb BK216.out hb)
    replace HB := Pst.A (below_step Pst.bes hb)
    clear hb hbox hg
    refine hK.out _ _ ⟨(blk_cell BK215.out 0).trans rfl, (blk_cell BK215.out 1).trans rfl, (blk_cell BK215.out 2).trans rfl, (blk_cell BK215.out 3).trans rfl, (blk_cell BK215.out 4).trans rfl, (blk_cell BK215.out 5).trans rfl, (blk_cell BK215.out 6).trans rfl, (blk_cell BK215.out 7).trans rfl, (blk_cell BK215.out 8).trans rfl, (blk_cell BK215.out 9).trans rfl, (blk_cell BK215.out 10).trans rfl, (blk_cell BK215.out 11).trans rfl⟩ (fun hHeld => ?_)
    clear hK K
    refine norm_ (a' := ?_) ?_ ?_
    rotate_left
    ·show Act.put _ (some 3) _ = _
     simp only [Pst.all]
     rfl
    exact norm_ (by simp only [putAll, Act.put, List.setIfInBounds_toArray, List.set_cons_zero, List.set_cons_succ]) (hCont (.slice Ao10 t217.length co10, .slice Ao9 t222.length co9, gb227) _ ⟨hHeld, (by (with_reducible repeat (first | apply Kd.R_alloc | apply Kd.R_drewN | apply Kd.R_drew)); exact Kd.R_mono HO219.out (fun _ hk => hk.2)), (by (with_reducible repeat (first | apply Kd.R_alloc | apply Kd.R_drewN | apply Kd.R_drew)); exact Kd.R_mono HO224.out (fun _ hk => hk.2)), (Pst.qb BK215.out), (Pst.qb BK216.out), (Pst.qb BK227.out), GW227.out, GE227.out, NB215_227.out, NB227_215.out, NB216_227.out, NB227_216.out, Pst.bes⟩)
   skip
   refine box_step ?hg (N := 3) ?hd (cs := #[.int .i64 0, .int .i64 0, .int .i64 0, .slice none 0 0, .slice none 0 0, .int .i64 0, .int .i64 0, .slice none 0 0, .int .i64 0, .int .i64 0, .int .i64 0, .int .i64 0]) (t := 41) ?hr ?_; (case hd => rfl); (case hg => rfl); (case hr => exact Pst.gr)
   intro gb227 hg w8 hbox hb
   have BK227 := Pst.A hbox
   have GW227 := Pst.A (Pst.gs hg : w.heap.size ≤ gb227)
   have GE227 := Pst.A (Pst.gs hg : w.heap.size ≤ gb227)
   have NB215_227 := Pst.A (Pst.nl BK215.out hg)
   have NB227_215 := Pst.A (Pst.nr BK215.out hg)
   have NB216_227 := Pst.A (Pst.nl BK216.out hg)
   have NB227_216 := Pst.A (Pst.nr BK216.out hg)
   replace HO219 := Pst.A (Kd.R_below (Pst.qr HO219.out) hb)
   replace BK215 := Pst.A (Pst.kb BK215.out hb)
   replace BK216 := Pst.A (Pst.kb BK216.out hb)
   replace HB := Pst.A (below_step Pst.bes hb)
   clear hb hbox hg
   refine hK.out _ _ ⟨(blk_cell BK215.out 0).trans rfl, (blk_cell BK215.out 1).trans rfl, (blk_cell BK215.out 2).trans rfl, (blk_cell BK215.out 3).trans rfl, (blk_cell BK215.out 4).trans rfl, (blk_cell BK215.out 5).trans rfl, (blk_cell BK215.out 6).trans rfl, (blk_cell BK215.out 7).trans rfl, (blk_cell BK215.out 8).trans rfl, (blk_cell BK215.out 9).trans rfl, (blk_cell BK215.out 10).trans rfl, (blk_cell BK215.out 11).trans rfl⟩ (fun hHeld => ?_)
   clear hK K
   refine norm_ (a' := ?_) ?_ ?_
   rotate_left
   ·show Act.put _ (some 3) _ = _
    simp only [Pst.all]
    rfl
   refine one_ (i := 9) (N := some 14) q22_17 rfl rfl (one_of HT_.out (by kernel_rfl)) (by decide) (fun K hK => ?_)
   refine goes_ Tryz.func44 (by kernel_rfl) rfl #[.agg #[.slice A0_7 l0_7.length c0_7, .int .i64 a0_8, .int .i64 a0_9]] (by rfl) rfl rfl Pst.ga ?_
   with_reducible refine (spec_l08Side.calls k _ _ l0_7 a0_8 a0_9 t222 t225 t226 _ ?side1 ?side2 A3.out).mono ?_
   (case side1 => exact Pst.qc (Kd.C_below HR0_7.out HB.out))
   (case side2 => exact HC0_7.out)
   rintro e w9 ⟨v223, rfl, ho0, hb⟩
   refine ⟨_, rfl, ?_⟩
   have HO224 := Pst.A (Kd.R_lower (Kd.R_new' ho0 (Kd.R_lt (Pst.qr HO219.out))) (below_size Pst.bes))
   replace HO219 := Pst.A (Kd.R_elder' (Pst.qr HO219.out) (Kd.R_base ho0) hb)
   replace BK215 := Pst.A (Pst.kb BK215.out hb)
   replace BK216 := Pst.A (Pst.kb BK216.out hb)
   replace BK227 := Pst.A (Pst.kb BK227.out hb)
   replace HB := Pst.A (below_step Pst.bes hb)
   (try clear hb)
   (try clear hb2)
   (try clear hk)
   (try clear hi)
   (try clear ho0)
   obtain ⟨Ao10, co10, eo10⟩ := Kd.R_slice HO224.out
   (first | subst eo10 | (injection eo10 with f1_ f2_ f3_; have f4_ := f1_.symm; have f5_ := f3_.symm; clear f1_ f2_ f3_; subst f4_; subst f5_))
   obtain ⟨Ao11, co11, eo11⟩ := Kd.R_slice HO219.out
   (first | subst eo11 | (injection eo11 with f1_ f2_ f3_; have f4_ := f1_.symm; have f5_ := f3_.symm; clear f1_ f2_ f3_; subst f4_; subst f5_))
   refine hK.out _ _ ⟨(blk_cell BK215.out 0).trans rfl, (blk_cell BK215.out 1).trans rfl, (blk_cell BK215.out 2).trans rfl, (blk_cell BK215.out 3).trans rfl, (blk_cell BK215.out 4).trans rfl, (blk_cell BK215.out 5).trans rfl, (blk_cell BK215.out 6).trans rfl, (blk_cell BK215.out 7).trans rfl, (blk_cell BK215.out 8).trans rfl, (blk_cell BK215.out 9).trans rfl, (blk_cell BK215.out 10).trans rfl, (blk_cell BK215.out 11).trans rfl⟩ (fun hHeld => ?_)
   clear hK K
   refine norm_ (a' := ?_) ?_ ?_
   rotate_left
   ·show Act.put _ (some 14) _ = _
    simp only [Pst.all]
    rfl
   refine pure_ (i := 16) (N := some 21) (v := ?_) (a' := ?_) q23_17 rfl rfl (any_of HT_.out (by kernel_rfl)) (fun _ _ _ h => h) (Or.inl ⟨by rfl, ?_⟩) ?_ ?_
   rotate_left
   ·intro w'
    go_simp
    with_reducible rfl
   rotate_left
   ·simp only [Pst.all]
    rfl
   refine pure_ (i := 17) (N := some 22) (v := ?_) (a' := ?_) q15_17 rfl rfl (any_of HT_.out (by kernel_rfl)) (fun _ _ _ h => h) (Or.inl ⟨by rfl, ?_⟩) ?_ ?_
   rotate_left
   ·intro w'
    go_simp
    with_reducible rfl
   rotate_left
   ·simp only [Pst.all]
    rfl
   exact norm_ (by simp only [putAll, Act.put, List.setIfInBounds_toArray, List.set_cons_zero, List.set_cons_succ]) (hCont (.slice Ao11 t217.length co11, .slice Ao10 t222.length co10, gb227) _ ⟨hHeld, (by (with_reducible repeat (first | apply Kd.R_alloc | apply Kd.R_drewN | apply Kd.R_drew)); exact Kd.R_mono HO219.out (fun _ hk => hk.2)), (by (with_reducible repeat (first | apply Kd.R_alloc | apply Kd.R_drewN | apply Kd.R_drew)); exact Kd.R_mono HO224.out (fun _ hk => hk.2)), (Pst.qb BK215.out), (Pst.qb BK216.out), (Pst.qb BK227.out), GW227.out, GE227.out, NB215_227.out, NB227_215.out, NB216_227.out, NB227_216.out, Pst.bes⟩)
  skip
  refine box_step ?hg (N := 3) ?hd (cs := #[.int .i64 0, .int .i64 0, .int .i64 0, .slice none 0 0, .slice none 0 0, .int .i64 0, .int .i64 0, .slice none 0 0, .int .i64 0, .int .i64 0, .int .i64 0, .int .i64 0]) (t := 41) ?hr ?_; (case hd => rfl); (case hg => rfl); (case hr => exact Pst.gr)
  intro gb227 hg w7 hbox hb
  have BK227 := Pst.A hbox
  have GW227 := Pst.A (Pst.gs hg : w.heap.size ≤ gb227)
  have GE227 := Pst.A (Pst.gs hg : w.heap.size ≤ gb227)
  have NB215_227 := Pst.A (Pst.nl BK215.out hg)
  have NB227_215 := Pst.A (Pst.nr BK215.out hg)
  have NB216_227 := Pst.A (Pst.nl BK216.out hg)
  have NB227_216 := Pst.A (Pst.nr BK216.out hg)
  replace BK215 := Pst.A (Pst.kb BK215.out hb)
  replace BK216 := Pst.A (Pst.kb BK216.out hb)
  replace HB := Pst.A (below_step Pst.bes hb)
  clear hb hbox hg
  refine hK.out _ _ ⟨(blk_cell BK215.out 0).trans rfl, (blk_cell BK215.out 1).trans rfl, (blk_cell BK215.out 2).trans rfl, (blk_cell BK215.out 3).trans rfl, (blk_cell BK215.out 4).trans rfl, (blk_cell BK215.out 5).trans rfl, (blk_cell BK215.out 6).trans rfl, (blk_cell BK215.out 7).trans rfl, (blk_cell BK215.out 8).trans rfl, (blk_cell BK215.out 9).trans rfl, (blk_cell BK215.out 10).trans rfl, (blk_cell BK215.out 11).trans rfl⟩ (fun hHeld => ?_)
  clear hK K
  refine norm_ (a' := ?_) ?_ ?_
  rotate_left
  ·show Act.put _ (some 3) _ = _
   simp only [Pst.all]
   rfl
  refine one_ (i := 5) (N := some 10) q19_17 rfl rfl (one_of HT_.out (by kernel_rfl)) (by decide) (fun K hK => ?_)
  refine goes_ Tryz.func44 (by kernel_rfl) rfl #[.agg #[.slice A0_4 l0_4.length c0_4, .int .i64 a0_5, .int .i64 a0_6]] (by rfl) rfl rfl Pst.ga ?_
  with_reducible refine (spec_l08Side.calls k _ _ l0_4 a0_5 a0_6 t217 t220 t221 _ ?side1 ?side2 A2.out).mono ?_
  (case side1 => exact Pst.qc (Kd.C_below HR0_4.out HB.out))
  (case side2 => exact HC0_4.out)
  rintro e w8 ⟨v218, rfl, ho0, hb⟩
  refine ⟨_, rfl, ?_⟩
  have HO219 := Pst.A (Kd.R_lower ho0 (below_size Pst.bes))
  replace BK215 := Pst.A (Pst.kb BK215.out hb)
  replace BK216 := Pst.A (Pst.kb BK216.out hb)
  replace BK227 := Pst.A (Pst.kb BK227.out hb)
  replace HB := Pst.A (below_step Pst.bes hb)
  (try clear hb)
  (try clear hb2)
  (try clear hk)
  (try clear hi)
  (try clear ho0)
  refine hK.out _ _ ⟨(blk_cell BK215.out 0).trans rfl, (blk_cell BK215.out 1).trans rfl, (blk_cell BK215.out 2).trans rfl, (blk_cell BK215.out 3).trans rfl, (blk_cell BK215.out 4).trans rfl, (blk_cell BK215.out 5).trans rfl, (blk_cell BK215.out 6).trans rfl, (blk_cell BK215.out 7).trans rfl, (blk_cell BK215.out 8).trans rfl, (blk_cell BK215.out 9).trans rfl, (blk_cell BK215.out 10).trans rfl, (blk_cell BK215.out 11).trans rfl⟩ (fun hHeld => ?_)
  clear hK K
  refine norm_ (a' := ?_) ?_ ?_
  rotate_left
  ·show Act.put _ (some 10) _ = _
   simp only [Pst.all]
   rfl
  refine one_ (i := 9) (N := some 14) q22_17 rfl rfl (one_of HT_.out (by kernel_rfl)) (by decide) (fun K hK => ?_)
  refine goes_ Tryz.func44 (by kernel_rfl) rfl #[.agg #[.slice A0_7 l0_7.length c0_7, .int .i64 a0_8, .int .i64 a0_9]] (by rfl) rfl rfl Pst.ga ?_
  with_reducible refine (spec_l08Side.calls k _ _ l0_7 a0_8 a0_9 t222 t225 t226 _ ?side1 ?side2 A3.out).mono ?_
  (case side1 => exact Pst.qc (Kd.C_below HR0_7.out HB.out))
  (case side2 => exact HC0_7.out)
  rintro e w9 ⟨v223, rfl, ho0, hb⟩
  refine ⟨_, rfl, ?_⟩
  have HO224 := Pst.A (Kd.R_lower (Kd.R_new' ho0 (Kd.R_lt (Pst.qr HO219.out))) (below_size Pst.bes))
  replace HO219 := Pst.A (Kd.R_elder' (Pst.qr HO219.out) (Kd.R_base ho0) hb)
  replace BK215 := Pst.A (Pst.kb BK215.out hb)
  replace BK216 := Pst.A (Pst.kb BK216.out hb)
  replace BK227 := Pst.A (Pst.kb BK227.out hb)
  replace HB := Pst.A (below_step Pst.bes hb)
  (try clear hb)
  (try clear hb2)
  (try clear hk)
  (try clear hi)
  (try clear ho0)
  obtain ⟨Ao10, co10, eo10⟩ := Kd.R_slice HO224.out
  (first | subst eo10 | (injection eo10 with f1_ f2_ f3_; have f4_ := f1_.symm; have f5_ := f3_.symm; clear f1_ f2_ f3_; subst f4_; subst f5_))
  obtain ⟨Ao11, co11, eo11⟩ := Kd.R_slice HO219.out
  (first | subst eo11 | (injection eo11 with f1_ f2_ f3_; have f4_ := f1_.symm; have f5_ := f3_.symm; clear f1_ f2_ f3_; subst f4_; subst f5_))
  refine hK.out _ _ ⟨(blk_cell BK215.out 0).trans rfl, (blk_cell BK215.out 1).trans rfl, (blk_cell BK215.out 2).trans rfl, (blk_cell BK215.out 3).trans rfl, (blk_cell BK215.out 4).trans rfl, (blk_cell BK215.out 5).trans rfl, (blk_cell BK215.out 6).trans rfl, (blk_cell BK215.out 7).trans rfl, (blk_cell BK215.out 8).trans rfl, (blk_cell BK215.out 9).trans rfl, (blk_cell BK215.out 10).trans rfl, (blk_cell BK215.out 11).trans rfl⟩ (fun hHeld => ?_)
  clear hK K
  refine norm_ (a' := ?_) ?_ ?_
  rotate_left
  ·show Act.put _ (some 14) _ = _
   simp only [Pst.all]
   rfl
  refine pure_ (i := 16) (N := some 21) (v := ?_) (a' := ?_) q23_17 rfl rfl (any_of HT_.out (by kernel_rfl)) (fun _ _ _ h => h) (Or.inl ⟨by rfl, ?_⟩) ?_ ?_
  rotate_left
  ·intro w'
   go_simp
   with_reducible rfl
  rotate_left
  ·simp only [Pst.all]
   rfl
  refine pure_ (i := 17) (N := some 22) (v := ?_) (a' := ?_) q15_17 rfl rfl (any_of HT_.out (by kernel_rfl)) (fun _ _ _ h => h) (Or.inl ⟨by rfl, ?_⟩) ?_ ?_
  rotate_left
  ·intro w'
   go_simp
   with_reducible rfl
  rotate_left
  ·simp only [Pst.all]
   rfl
  exact norm_ (by simp only [putAll, Act.put, List.setIfInBounds_toArray, List.set_cons_zero, List.set_cons_succ]) (hCont (.slice Ao11 t217.length co11, .slice Ao10 t222.length co10, gb227) _ ⟨hHeld, (by (with_reducible repeat (first | apply Kd.R_alloc | apply Kd.R_drewN | apply Kd.R_drew)); exact Kd.R_mono HO219.out (fun _ hk => hk.2)), (by (with_reducible repeat (first | apply Kd.R_alloc | apply Kd.R_drewN | apply Kd.R_drew)); exact Kd.R_mono HO224.out (fun _ hk => hk.2)), (Pst.qb BK215.out), (Pst.qb BK216.out), (Pst.qb BK227.out), GW227.out, GE227.out, NB215_227.out, NB227_215.out, NB216_227.out, NB227_216.out, Pst.bes⟩)
 rintro ⟨v218, v223, gb227⟩ w12 ⟨hS_, h0_, h1_, h2_, h3_, h4_, h5_, h6_, h7_, h8_, h9_, h10_, h11_⟩
 have n0_ : Aside0 (Kd.R k102 102 w12 w.heap.size (fun k_ => some k_ ≠ (v223 : Value).ownBlock) v218 t217) := ⟨h0_⟩
 have n1_ : Aside0 (Kd.R k102 102 w12 w.heap.size (fun k_ => some k_ ≠ (v218 : Value).ownBlock) v223 t222) := ⟨h1_⟩
 have n2_ : Aside0 (w12.heap[gb215]? = some (.cells #[.int .i64 a0_0, .int .i64 a0_1, .int .i64 a0_2, .slice A0_3 l0_3.length c0_3, .slice A0_4 l0_4.length c0_4, .int .i64 a0_5, .int .i64 a0_6, .slice A0_7 l0_7.length c0_7, .int .i64 a0_8, .int .i64 a0_9, .int .i64 a0_10, .int .i64 a0_11] 41 (0, 0))) := ⟨h2_⟩
 have n3_ : Aside0 (w12.heap[gb216]? = some (.cells #[.int .i64 0, .int .i64 0, .int .i64 0, .slice none 0 0, .slice none 0 0, .int .i64 0, .int .i64 0, .slice none 0 0, .int .i64 0, .int .i64 0, .int .i64 0, .int .i64 0] 41 (0, 0))) := ⟨h3_⟩
 have n4_ : Aside0 (w12.heap[gb227]? = some (.cells #[.int .i64 0, .int .i64 0, .int .i64 0, .slice none 0 0, .slice none 0 0, .int .i64 0, .int .i64 0, .slice none 0 0, .int .i64 0, .int .i64 0, .int .i64 0, .int .i64 0] 41 (0, 0))) := ⟨h4_⟩
 have n5_ : Aside0 (w.heap.size ≤ gb227) := ⟨h5_⟩
 have n6_ : Aside0 (w.heap.size ≤ gb227) := ⟨h6_⟩
 have n7_ : Aside0 (gb215 ≠ gb227) := ⟨h7_⟩
 have n8_ : Aside0 (gb227 ≠ gb215) := ⟨h8_⟩
 have n9_ : Aside0 (gb216 ≠ gb227) := ⟨h9_⟩
 have n10_ : Aside0 (gb227 ≠ gb216) := ⟨h10_⟩
 have n11_ : Aside0 (Below w.heap.size w w12) := ⟨h11_⟩
 clear BK215 BK216 HB h0_ h1_ h2_ h3_ h4_ h5_ h6_ h7_ h8_ h9_ h10_ h11_
 have HO219 := n0_
 have HO224 := n1_
 have BK215 := n2_
 have BK216 := n3_
 have BK227 := n4_
 have GW227 := n5_
 have GE227 := n6_
 have NB215_227 := n7_
 have NB227_215 := n8_
 have NB216_227 := n9_
 have NB227_216 := n10_
 have HB := n11_
 clear n0_ n1_ n2_ n3_ n4_ n5_ n6_ n7_ n8_ n9_ n10_ n11_
 have hHeld : w12.cell? ⟨gb215, 0, none⟩ = some (.int .i64 a0_0) ∧ w12.cell? ⟨gb215, 1, none⟩ = some (.int .i64 a0_1) ∧ w12.cell? ⟨gb215, 2, none⟩ = some (.int .i64 a0_2) ∧ w12.cell? ⟨gb215, 3, none⟩ = some (.slice A0_3 l0_3.length c0_3) ∧ w12.cell? ⟨gb215, 4, none⟩ = some (.slice A0_4 l0_4.length c0_4) ∧ w12.cell? ⟨gb215, 5, none⟩ = some (.int .i64 a0_5) ∧ w12.cell? ⟨gb215, 6, none⟩ = some (.int .i64 a0_6) ∧ w12.cell? ⟨gb215, 7, none⟩ = some (.slice A0_7 l0_7.length c0_7) ∧ w12.cell? ⟨gb215, 8, none⟩ = some (.int .i64 a0_8) ∧ w12.cell? ⟨gb215, 9, none⟩ = some (.int .i64 a0_9) ∧ w12.cell? ⟨gb215, 10, none⟩ = some (.int .i64 a0_10) ∧ w12.cell? ⟨gb215, 11, none⟩ = some (.int .i64 a0_11) := hS_
 obtain ⟨Ao13, co13, eo13⟩ := Kd.R_slice HO224.out
 (first | subst eo13 | (injection eo13 with f1_ f2_ f3_; have f4_ := f1_.symm; have f5_ := f3_.symm; clear f1_ f2_ f3_; subst f4_; subst f5_))
 obtain ⟨Ao14, co14, eo14⟩ := Kd.R_slice HO219.out
 (first | subst eo14 | (injection eo14 with f1_ f2_ f3_; have f4_ := f1_.symm; have f5_ := f3_.symm; clear f1_ f2_ f3_; subst f4_; subst f5_))
 refine norm_ (a' := ?_) ?_ ?_
 rotate_left
 ·simp only [putAll, Act.put, List.setIfInBounds_toArray, List.set_cons_zero, List.set_cons_succ]
  rfl
 refine one_ (i := 19) (N := none) q24_17 rfl rfl (one_of HT_.out (by kernel_rfl)) (by decide) (fun K hK => ?_)
 have hs15 : w12.cell? ⟨gb227, 0, none⟩ = some (.int .i64 0) := (blk_cell BK227.out 0).trans rfl
 have hfs15 := blk_frozen BK227.out 0
 have hns15_0 := NB215_227.out
 have hns15_1 := NB216_227.out
 have hms15_0 := NB227_215.out
 have hms15_1 := NB227_216.out
 have hs16 : w12.cell? ⟨gb227, 1, none⟩ = some (.int .i64 0) := (blk_cell BK227.out 1).trans rfl
 have hfs16 := blk_frozen BK227.out 1
 have hns16_0 := NB215_227.out
 have hns16_1 := NB216_227.out
 have hms16_0 := NB227_215.out
 have hms16_1 := NB227_216.out
 have hs17 : w12.cell? ⟨gb227, 2, none⟩ = some (.int .i64 0) := (blk_cell BK227.out 2).trans rfl
 have hfs17 := blk_frozen BK227.out 2
 have hns17_0 := NB215_227.out
 have hns17_1 := NB216_227.out
 have hms17_0 := NB227_215.out
 have hms17_1 := NB227_216.out
 have hs18 : w12.cell? ⟨gb227, 3, none⟩ = some (.slice none 0 0) := (blk_cell BK227.out 3).trans rfl
 have hfs18 := blk_frozen BK227.out 3
 have hns18_0 := NB215_227.out
 have hns18_1 := NB216_227.out
 have hms18_0 := NB227_215.out
 have hms18_1 := NB227_216.out
 have hs19 : w12.cell? ⟨gb227, 4, none⟩ = some (.slice none 0 0) := (blk_cell BK227.out 4).trans rfl
 have hfs19 := blk_frozen BK227.out 4
 have hns19_0 := NB215_227.out
 have hns19_1 := NB216_227.out
 have hms19_0 := NB227_215.out
 have hms19_1 := NB227_216.out
 have hs20 : w12.cell? ⟨gb227, 5, none⟩ = some (.int .i64 0) := (blk_cell BK227.out 5).trans rfl
 have hfs20 := blk_frozen BK227.out 5
 have hns20_0 := NB215_227.out
 have hns20_1 := NB216_227.out
 have hms20_0 := NB227_215.out
 have hms20_1 := NB227_216.out
 have hs21 : w12.cell? ⟨gb227, 6, none⟩ = some (.int .i64 0) := (blk_cell BK227.out 6).trans rfl
 have hfs21 := blk_frozen BK227.out 6
 have hns21_0 := NB215_227.out
 have hns21_1 := NB216_227.out
 have hms21_0 := NB227_215.out
 have hms21_1 := NB227_216.out
 have hs22 : w12.cell? ⟨gb227, 7, none⟩ = some (.slice none 0 0) := (blk_cell BK227.out 7).trans rfl
 have hfs22 := blk_frozen BK227.out 7
 have hns22_0 := NB215_227.out
 have hns22_1 := NB216_227.out
 have hms22_0 := NB227_215.out
 have hms22_1 := NB227_216.out
 have hs23 : w12.cell? ⟨gb227, 8, none⟩ = some (.int .i64 0) := (blk_cell BK227.out 8).trans rfl
 have hfs23 := blk_frozen BK227.out 8
 have hns23_0 := NB215_227.out
 have hns23_1 := NB216_227.out
 have hms23_0 := NB227_215.out
 have hms23_1 := NB227_216.out
 have hs24 : w12.cell? ⟨gb227, 9, none⟩ = some (.int .i64 0) := (blk_cell BK227.out 9).trans rfl
 have hfs24 := blk_frozen BK227.out 9
 have hns24_0 := NB215_227.out
 have hns24_1 := NB216_227.out
 have hms24_0 := NB227_215.out
 have hms24_1 := NB227_216.out
 have hs25 : w12.cell? ⟨gb227, 10, none⟩ = some (.int .i64 0) := (blk_cell BK227.out 10).trans rfl
 have hfs25 := blk_frozen BK227.out 10
 have hns25_0 := NB215_227.out
 have hns25_1 := NB216_227.out
 have hms25_0 := NB227_215.out
 have hms25_1 := NB227_216.out
 have hs26 : w12.cell? ⟨gb227, 11, none⟩ = some (.int .i64 0) := (blk_cell BK227.out 11).trans rfl
 have hfs26 := blk_frozen BK227.out 11
 have hns26_0 := NB215_227.out
 have hns26_1 := NB216_227.out
 have hms26_0 := NB227_215.out
 have hms26_1 := NB227_216.out
 refine skip_ (w1 := ?_) (by rfl) rfl ?_ ?_
 rotate_left
 ·go_simp
  rfl
 refine hK.out _ _ ⟨((cell_far (p := ⟨gb227, _, none⟩) NB215_227.out _).trans (((cell_far (p := ⟨gb227, _, none⟩) NB215_227.out _).trans (((cell_far (p := ⟨gb227, _, none⟩) NB215_227.out _).trans (((cell_far (p := ⟨gb227, _, none⟩) NB215_227.out _).trans (((cell_far (p := ⟨gb227, _, none⟩) NB215_227.out _).trans (((cell_far (p := ⟨gb227, _, none⟩) NB215_227.out _).trans (((cell_far (p := ⟨gb227, _, none⟩) NB215_227.out _).trans (((cell_far (p := ⟨gb227, _, none⟩) NB215_227.out _).trans (((cell_far (p := ⟨gb227, _, none⟩) NB215_227.out _).trans (((cell_far (p := ⟨gb227, _, none⟩) NB215_227.out _).trans (((cell_far (p := ⟨gb227, _, none⟩) NB215_227.out _).trans (((cell_far (p := ⟨gb227, _, none⟩) NB215_227.out _).trans (hHeld.1)))))))))))))))))))))))), ((cell_far (p := ⟨gb227, _, none⟩) NB215_227.out _).trans (((cell_far (p := ⟨gb227, _, none⟩) NB215_227.out _).trans (((cell_far (p := ⟨gb227, _, none⟩) NB215_227.out _).trans (((cell_far (p := ⟨gb227, _, none⟩) NB215_227.out _).trans (((cell_far (p := ⟨gb227, _, none⟩) NB215_227.out _).trans (((cell_far (p := ⟨gb227, _, none⟩) NB215_227.out _).trans (((cell_far (p := ⟨gb227, _, none⟩) NB215_227.out _).trans (((cell_far (p := ⟨gb227, _, none⟩) NB215_227.out _).trans (((cell_far (p := ⟨gb227, _, none⟩) NB215_227.out _).trans (((cell_far (p := ⟨gb227, _, none⟩) NB215_227.out _).trans (((cell_far (p := ⟨gb227, _, none⟩) NB215_227.out _).trans (((cell_far (p := ⟨gb227, _, none⟩) NB215_227.out _).trans (hHeld.2.1)))))))))))))))))))))))), ((cell_far (p := ⟨gb227, _, none⟩) NB215_227.out _).trans (((cell_far (p := ⟨gb227, _, none⟩) NB215_227.out _).trans (((cell_far (p := ⟨gb227, _, none⟩) NB215_227.out _).trans (((cell_far (p := ⟨gb227, _, none⟩) NB215_227.out _).trans (((cell_far (p := ⟨gb227, _, none⟩) NB215_227.out _).trans (((cell_far (p := ⟨gb227, _, none⟩) NB215_227.out _).trans (((cell_far (p := ⟨gb227, _, none⟩) NB215_227.out _).trans (((cell_far (p := ⟨gb227, _, none⟩) NB215_227.out _).trans (((cell_far (p := ⟨gb227, _, none⟩) NB215_227.out _).trans (((cell_far (p := ⟨gb227, _, none⟩) NB215_227.out _).trans (((cell_far (p := ⟨gb227, _, none⟩) NB215_227.out _).trans (((cell_far (p := ⟨gb227, _, none⟩) NB215_227.out _).trans (hHeld.2.2.1)))))))))))))))))))))))), ((cell_far (p := ⟨gb227, _, none⟩) NB215_227.out _).trans (((cell_far (p := ⟨gb227, _, none⟩) NB215_227.out _).trans (((cell_far (p := ⟨gb227, _, none⟩) NB215_227.out _).trans (((cell_far (p := ⟨gb227, _, none⟩) NB215_227.out _).trans (((cell_far (p := ⟨gb227, _, none⟩) NB215_227.out _).trans (((cell_far (p := ⟨gb227, _, none⟩) NB215_227.out _).trans (((cell_far (p := ⟨gb227, _, none⟩) NB215_227.out _).trans (((cell_far (p := ⟨gb227, _, none⟩) NB215_227.out _).trans (((cell_far (p := ⟨gb227, _, none⟩) NB215_227.out _).trans (((cell_far (p := ⟨gb227, _, none⟩) NB215_227.out _).trans (((cell_far (p := ⟨gb227, _, none⟩) NB215_227.out _).trans (((cell_far (p := ⟨gb227, _, none⟩) NB215_227.out _).trans (hHeld.2.2.2.1)))))))))))))))))))))))), ((cell_far (p := ⟨gb227, _, none⟩) NB215_227.out _).trans (((cell_far (p := ⟨gb227, _, none⟩) NB215_227.out _).trans (((cell_far (p := ⟨gb227, _, none⟩) NB215_227.out _).trans (((cell_far (p := ⟨gb227, _, none⟩) NB215_227.out _).trans (((cell_far (p := ⟨gb227, _, none⟩) NB215_227.out _).trans (((cell_far (p := ⟨gb227, _, none⟩) NB215_227.out _).trans (((cell_far (p := ⟨gb227, _, none⟩) NB215_227.out _).trans (((cell_far (p := ⟨gb227, _, none⟩) NB215_227.out _).trans (((cell_far (p := ⟨gb227, _, none⟩) NB215_227.out _).trans (((cell_far (p := ⟨gb227, _, none⟩) NB215_227.out _).trans (((cell_far (p := ⟨gb227, _, none⟩) NB215_227.out _).trans (((cell_far (p := ⟨gb227, _, none⟩) NB215_227.out _).trans (hHeld.2.2.2.2.1)))))))))))))))))))))))), ((cell_far (p := ⟨gb227, _, none⟩) NB215_227.out _).trans (((cell_far (p := ⟨gb227, _, none⟩) NB215_227.out _).trans (((cell_far (p := ⟨gb227, _, none⟩) NB215_227.out _).trans (((cell_far (p := ⟨gb227, _, none⟩) NB215_227.out _).trans (((cell_far (p := ⟨gb227, _, none⟩) NB215_227.out _).trans (((cell_far (p := ⟨gb227, _, none⟩) NB215_227.out _).trans (((cell_far (p := ⟨gb227, _, none⟩) NB215_227.out _).trans (((cell_far (p := ⟨gb227, _, none⟩) NB215_227.out _).trans (((cell_far (p := ⟨gb227, _, none⟩) NB215_227.out _).trans (((cell_far (p := ⟨gb227, _, none⟩) NB215_227.out _).trans (((cell_far (p := ⟨gb227, _, none⟩) NB215_227.out _).trans (((cell_far (p := ⟨gb227, _, none⟩) NB215_227.out _).trans (hHeld.2.2.2.2.2.1)))))))))))))))))))))))), ((cell_far (p := ⟨gb227, _, none⟩) NB215_227.out _).trans (((cell_far (p := ⟨gb227, _, none⟩) NB215_227.out _).trans (((cell_far (p := ⟨gb227, _, none⟩) NB215_227.out _).trans (((cell_far (p := ⟨gb227, _, none⟩) NB215_227.out _).trans (((cell_far (p := ⟨gb227, _, none⟩) NB215_227.out _).trans (((cell_far (p := ⟨gb227, _, none⟩) NB215_227.out _).trans (((cell_far (p := ⟨gb227, _, none⟩) NB215_227.out _).trans (((cell_far (p := ⟨gb227, _, none⟩) NB215_227.out _).trans (((cell_far (p := ⟨gb227, _, none⟩) NB215_227.out _).trans (((cell_far (p := ⟨gb227, _, none⟩) NB215_227.out _).trans (((cell_far (p := ⟨gb227, _, none⟩) NB215_227.out _).trans (((cell_far (p := ⟨gb227, _, none⟩) NB215_227.out _).trans (hHeld.2.2.2.2.2.2.1)))))))))))))))))))))))), ((cell_far (p := ⟨gb227, _, none⟩) NB215_227.out _).trans (((cell_far (p := ⟨gb227, _, none⟩) NB215_227.out _).trans (((cell_far (p := ⟨gb227, _, none⟩) NB215_227.out _).trans (((cell_far (p := ⟨gb227, _, none⟩) NB215_227.out _).trans (((cell_far (p := ⟨gb227, _, none⟩) NB215_227.out _).trans (((cell_far (p := ⟨gb227, _, none⟩) NB215_227.out _).trans (((cell_far (p := ⟨gb227, _, none⟩) NB215_227.out _).trans (((cell_far (p := ⟨gb227, _, none⟩) NB215_227.out _).trans (((cell_far (p := ⟨gb227, _, none⟩) NB215_227.out _).trans (((cell_far (p := ⟨gb227, _, none⟩) NB215_227.out _).trans (((cell_far (p := ⟨gb227, _, none⟩) NB215_227.out _).trans (((cell_far (p := ⟨gb227, _, none⟩) NB215_227.out _).trans (hHeld.2.2.2.2.2.2.2.1)))))))))))))))))))))))), ((cell_far (p := ⟨gb227, _, none⟩) NB215_227.out _).trans (((cell_far (p := ⟨gb227, _, none⟩) NB215_227.out _).trans (((cell_far (p := ⟨gb227, _, none⟩) NB215_227.out _).trans (((cell_far (p := ⟨gb227, _, none⟩) NB215_227.out _).trans (((cell_far (p := ⟨gb227, _, none⟩) NB215_227.out _).trans (((cell_far (p := ⟨gb227, _, none⟩) NB215_227.out _).trans (((cell_far (p := ⟨gb227, _, none⟩) NB215_227.out _).trans (((cell_far (p := ⟨gb227, _, none⟩) NB215_227.out _).trans (((cell_far (p := ⟨gb227, _, none⟩) NB215_227.out _).trans (((cell_far (p := ⟨gb227, _, none⟩) NB215_227.out _).trans (((cell_far (p := ⟨gb227, _, none⟩) NB215_227.out _).trans (((cell_far (p := ⟨gb227, _, none⟩) NB215_227.out _).trans (hHeld.2.2.2.2.2.2.2.2.1)))))))))))))))))))))))), ((cell_far (p := ⟨gb227, _, none⟩) NB215_227.out _).trans (((cell_far (p := ⟨gb227, _, none⟩) NB215_227.out _).trans (((cell_far (p := ⟨gb227, _, none⟩) NB215_227.out _).trans (((cell_far (p := ⟨gb227, _, none⟩) NB215_227.out _).trans (((cell_far (p := ⟨gb227, _, none⟩) NB215_227.out _).trans (((cell_far (p := ⟨gb227, _, none⟩) NB215_227.out _).trans (((cell_far (p := ⟨gb227, _, none⟩) NB215_227.out _).trans (((cell_far (p := ⟨gb227, _, none⟩) NB215_227.out _).trans (((cell_far (p := ⟨gb227, _, none⟩) NB215_227.out _).trans (((cell_far (p := ⟨gb227, _, none⟩) NB215_227.out _).trans (((cell_far (p := ⟨gb227, _, none⟩) NB215_227.out _).trans (((cell_far (p := ⟨gb227, _, none⟩) NB215_227.out _).trans (hHeld.2.2.2.2.2.2.2.2.2.1)))))))))))))))))))))))), ((cell_far (p := ⟨gb227, _, none⟩) NB215_227.out _).trans (((cell_far (p := ⟨gb227, _, none⟩) NB215_227.out _).trans (((cell_far (p := ⟨gb227, _, none⟩) NB215_227.out _).trans (((cell_far (p := ⟨gb227, _, none⟩) NB215_227.out _).trans (((cell_far (p := ⟨gb227, _, none⟩) NB215_227.out _).trans (((cell_far (p := ⟨gb227, _, none⟩) NB215_227.out _).trans (((cell_far (p := ⟨gb227, _, none⟩) NB215_227.out _).trans (((cell_far (p := ⟨gb227, _, none⟩) NB215_227.out _).trans (((cell_far (p := ⟨gb227, _, none⟩) NB215_227.out _).trans (((cell_far (p := ⟨gb227, _, none⟩) NB215_227.out _).trans (((cell_far (p := ⟨gb227, _, none⟩) NB215_227.out _).trans (((cell_far (p := ⟨gb227, _, none⟩) NB215_227.out _).trans (hHeld.2.2.2.2.2.2.2.2.2.2.1)))))))))))))))))))))))), ((cell_far (p := ⟨gb227, _, none⟩) NB215_227.out _).trans (((cell_far (p := ⟨gb227, _, none⟩) NB215_227.out _).trans (((cell_far (p := ⟨gb227, _, none⟩) NB215_227.out _).trans (((cell_far (p := ⟨gb227, _, none⟩) NB215_227.out _).trans (((cell_far (p := ⟨gb227, _, none⟩) NB215_227.out _).trans (((cell_far (p := ⟨gb227, _, none⟩) NB215_227.out _).trans (((cell_far (p := ⟨gb227, _, none⟩) NB215_227.out _).trans (((cell_far (p := ⟨gb227, _, none⟩) NB215_227.out _).trans (((cell_far (p := ⟨gb227, _, none⟩) NB215_227.out _).trans (((cell_far (p := ⟨gb227, _, none⟩) NB215_227.out _).trans (((cell_far (p := ⟨gb227, _, none⟩) NB215_227.out _).trans (((cell_far (p := ⟨gb227, _, none⟩) NB215_227.out _).trans (hHeld.2.2.2.2.2.2.2.2.2.2.2))))))))))))))))))))))))⟩ (fun hHeld => ?_)
 clear hK K
 refine done_ (done_of HT_.out (by kernel_rfl)) ?_
 try go_wp2
 go_loopg [4] k (fun kq v4 w' => ∃ (x4_1 : Int) (x228003_1 : List (S82)) (u228003 : Value), v4 = .int .i64 x4_1 ∧ Aside0 (spec_l08Setup.l0 kq x4_1 a0_0 a0_1 a0_2 l0_3 l0_4 a0_5 a0_6 l0_7 a0_8 a0_9 a0_10 a0_11 a0_0 a0_1 a0_2 x228003_1 t217 t220 t221 t222 t225 t226 a0_10 a0_11 = some (r1, r2, r3, r4, r5, r6, r7, r8, r9, r10, r11, r12)) ∧ Aside0 (kq ≤ k) ∧ Aside0 (Kd.R k82 82 w' w.heap.size (fun _ => True) u228003 x228003_1) ∧ Aside0 (Kd.R k102 102 w' w.heap.size (fun k_ => some k_ ≠ ((.slice Ao13 t222.length co13) : Value).ownBlock) (.slice Ao14 t217.length co14) t217) ∧ Aside0 (Kd.R k102 102 w' w.heap.size (fun k_ => some k_ ≠ ((.slice Ao14 t217.length co14) : Value).ownBlock) (.slice Ao13 t222.length co13) t222) ∧ Aside0 (w'.heap[gb215]? = some (.cells #[.int .i64 a0_0, .int .i64 a0_1, .int .i64 a0_2, (.slice A0_3 l0_3.length c0_3), (.slice A0_4 l0_4.length c0_4), .int .i64 a0_5, .int .i64 a0_6, (.slice A0_7 l0_7.length c0_7), .int .i64 a0_8, .int .i64 a0_9, .int .i64 a0_10, .int .i64 a0_11] 41 (0, 0))) ∧ Aside0 (w'.heap[gb216]? = some (.cells #[.int .i64 0, .int .i64 0, .int .i64 0, (.slice none 0 0), (.slice none 0 0), .int .i64 0, .int .i64 0, (.slice none 0 0), .int .i64 0, .int .i64 0, .int .i64 0, .int .i64 0] 41 (0, 0))) ∧ Aside0 (w'.heap[gb227]? = some (.cells #[.int .i64 a0_0, .int .i64 a0_1, .int .i64 a0_2, u228003, (.slice Ao14 t217.length co14), .int .i64 t220, .int .i64 t221, (.slice Ao13 t222.length co13), .int .i64 t225, .int .i64 t226, .int .i64 a0_10, .int .i64 a0_11] 41 (0, 0))) ∧ Aside0 (Below w.heap.size w w'))
 case atStart => exact ⟨(0), (([] : List (S82))), (.slice none 0 0), Pst.e2, H', ⟨Nat.le_refl _⟩, ⟨by first | exact Kd.R_nil _ _ _ _ _ | exact Kd.N_nil _ _ _ _ _ | exact Kd.V_nil _ _ _ _ _ | exact Kd.Q_nil _ _ _ _ _ | exact Kd.S_nil _ _ _ _ _⟩, ⟨by (with_reducible repeat (first | apply Kd.R_alloc | apply Kd.R_drewN | apply Kd.R_drew)); exact Kd.R_mono (Kd.R_far (p := ⟨gb227, 11, none⟩) (Kd.R_far (p := ⟨gb227, 10, none⟩) (Kd.R_far (p := ⟨gb227, 9, none⟩) (Kd.R_far (p := ⟨gb227, 8, none⟩) (Kd.R_far (p := ⟨gb227, 7, none⟩) (Kd.R_far (p := ⟨gb227, 6, none⟩) (Kd.R_far (p := ⟨gb227, 5, none⟩) (Kd.R_far (p := ⟨gb227, 4, none⟩) (Kd.R_far (p := ⟨gb227, 3, none⟩) (Kd.R_far (p := ⟨gb227, 2, none⟩) (Kd.R_far (p := ⟨gb227, 1, none⟩) (Kd.R_far (p := ⟨gb227, 0, none⟩) (Kd.R_types HO219.out BK227.out (by decide)) (fun _ hk => hk.2) (.int .i64 a0_0)) (fun _ hk => hk.2) (.int .i64 a0_1)) (fun _ hk => hk.2) (.int .i64 a0_2)) (fun _ hk => hk.2) (.slice none 0 0)) (fun _ hk => hk.2) (.slice Ao14 t217.length co14)) (fun _ hk => hk.2) (.int .i64 t220)) (fun _ hk => hk.2) (.int .i64 t221)) (fun _ hk => hk.2) (.slice Ao13 t222.length co13)) (fun _ hk => hk.2) (.int .i64 t225)) (fun _ hk => hk.2) (.int .i64 t226)) (fun _ hk => hk.2) (.int .i64 a0_10)) (fun _ hk => hk.2) (.int .i64 a0_11)) (fun _ hk => hk.1)⟩, ⟨by (with_reducible repeat (first | apply Kd.R_alloc | apply Kd.R_drewN | apply Kd.R_drew)); exact Kd.R_mono (Kd.R_far (p := ⟨gb227, 11, none⟩) (Kd.R_far (p := ⟨gb227, 10, none⟩) (Kd.R_far (p := ⟨gb227, 9, none⟩) (Kd.R_far (p := ⟨gb227, 8, none⟩) (Kd.R_far (p := ⟨gb227, 7, none⟩) (Kd.R_far (p := ⟨gb227, 6, none⟩) (Kd.R_far (p := ⟨gb227, 5, none⟩) (Kd.R_far (p := ⟨gb227, 4, none⟩) (Kd.R_far (p := ⟨gb227, 3, none⟩) (Kd.R_far (p := ⟨gb227, 2, none⟩) (Kd.R_far (p := ⟨gb227, 1, none⟩) (Kd.R_far (p := ⟨gb227, 0, none⟩) (Kd.R_types HO224.out BK227.out (by decide)) (fun _ hk => hk.2) (.int .i64 a0_0)) (fun _ hk => hk.2) (.int .i64 a0_1)) (fun _ hk => hk.2) (.int .i64 a0_2)) (fun _ hk => hk.2) (.slice none 0 0)) (fun _ hk => hk.2) (.slice Ao14 t217.length co14)) (fun _ hk => hk.2) (.int .i64 t220)) (fun _ hk => hk.2) (.int .i64 t221)) (fun _ hk => hk.2) (.slice Ao13 t222.length co13)) (fun _ hk => hk.2) (.int .i64 t225)) (fun _ hk => hk.2) (.int .i64 t226)) (fun _ hk => hk.2) (.int .i64 a0_10)) (fun _ hk => hk.2) (.int .i64 a0_11)) (fun _ hk => hk.1)⟩, ⟨by (with_reducible repeat (first | refine blk_drewN ?_ _ | refine blk_drew ?_ | refine blk_alloc ?_ _)); refine blk_far ?_ NB215_227.out _; (with_reducible repeat (first | refine blk_drewN ?_ _ | refine blk_drew ?_ | refine blk_alloc ?_ _)); refine blk_far ?_ NB215_227.out _; (with_reducible repeat (first | refine blk_drewN ?_ _ | refine blk_drew ?_ | refine blk_alloc ?_ _)); refine blk_far ?_ NB215_227.out _; (with_reducible repeat (first | refine blk_drewN ?_ _ | refine blk_drew ?_ | refine blk_alloc ?_ _)); refine blk_far ?_ NB215_227.out _; (with_reducible repeat (first | refine blk_drewN ?_ _ | refine blk_drew ?_ | refine blk_alloc ?_ _)); refine blk_far ?_ NB215_227.out _; (with_reducible repeat (first | refine blk_drewN ?_ _ | refine blk_drew ?_ | refine blk_alloc ?_ _)); refine blk_far ?_ NB215_227.out _; (with_reducible repeat (first | refine blk_drewN ?_ _ | refine blk_drew ?_ | refine blk_alloc ?_ _)); refine blk_far ?_ NB215_227.out _; (with_reducible repeat (first | refine blk_drewN ?_ _ | refine blk_drew ?_ | refine blk_alloc ?_ _)); refine blk_far ?_ NB215_227.out _; (with_reducible repeat (first | refine blk_drewN ?_ _ | refine blk_drew ?_ | refine blk_alloc ?_ _)); refine blk_far ?_ NB215_227.out _; (with_reducible repeat (first | refine blk_drewN ?_ _ | refine blk_drew ?_ | refine blk_alloc ?_ _)); refine blk_far ?_ NB215_227.out _; (with_reducible repeat (first | refine blk_drewN ?_ _ | refine blk_drew ?_ | refine blk_alloc ?_ _)); refine blk_far ?_ NB215_227.out _; (with_reducible repeat (first | refine blk_drewN ?_ _ | refine blk_drew ?_ | refine blk_alloc ?_ _)); refine blk_far ?_ NB215_227.out _; exact Pst.qb BK215.out⟩, ⟨by (with_reducible repeat (first | refine blk_drewN ?_ _ | refine blk_drew ?_ | refine blk_alloc ?_ _)); refine blk_far ?_ NB216_227.out _; (with_reducible repeat (first | refine blk_drewN ?_ _ | refine blk_drew ?_ | refine blk_alloc ?_ _)); refine blk_far ?_ NB216_227.out _; (with_reducible repeat (first | refine blk_drewN ?_ _ | refine blk_drew ?_ | refine blk_alloc ?_ _)); refine blk_far ?_ NB216_227.out _; (with_reducible repeat (first | refine blk_drewN ?_ _ | refine blk_drew ?_ | refine blk_alloc ?_ _)); refine blk_far ?_ NB216_227.out _; (with_reducible repeat (first | refine blk_drewN ?_ _ | refine blk_drew ?_ | refine blk_alloc ?_ _)); refine blk_far ?_ NB216_227.out _; (with_reducible repeat (first | refine blk_drewN ?_ _ | refine blk_drew ?_ | refine blk_alloc ?_ _)); refine blk_far ?_ NB216_227.out _; (with_reducible repeat (first | refine blk_drewN ?_ _ | refine blk_drew ?_ | refine blk_alloc ?_ _)); refine blk_far ?_ NB216_227.out _; (with_reducible repeat (first | refine blk_drewN ?_ _ | refine blk_drew ?_ | refine blk_alloc ?_ _)); refine blk_far ?_ NB216_227.out _; (with_reducible repeat (first | refine blk_drewN ?_ _ | refine blk_drew ?_ | refine blk_alloc ?_ _)); refine blk_far ?_ NB216_227.out _; (with_reducible repeat (first | refine blk_drewN ?_ _ | refine blk_drew ?_ | refine blk_alloc ?_ _)); refine blk_far ?_ NB216_227.out _; (with_reducible repeat (first | refine blk_drewN ?_ _ | refine blk_drew ?_ | refine blk_alloc ?_ _)); refine blk_far ?_ NB216_227.out _; (with_reducible repeat (first | refine blk_drewN ?_ _ | refine blk_drew ?_ | refine blk_alloc ?_ _)); refine blk_far ?_ NB216_227.out _; exact Pst.qb BK216.out⟩, ⟨by (with_reducible repeat (first | refine blk_drewN ?_ _ | refine blk_drew ?_ | refine blk_alloc ?_ _)); refine blk_put (cs := #[.int .i64 a0_0, .int .i64 a0_1, .int .i64 a0_2, .slice none 0 0, .slice Ao14 t217.length co14, .int .i64 t220, .int .i64 t221, .slice Ao13 t222.length co13, .int .i64 t225, .int .i64 t226, .int .i64 a0_10, .int .i64 0]) ?_ 11 _ rfl; (with_reducible repeat (first | refine blk_drewN ?_ _ | refine blk_drew ?_ | refine blk_alloc ?_ _)); refine blk_put (cs := #[.int .i64 a0_0, .int .i64 a0_1, .int .i64 a0_2, .slice none 0 0, .slice Ao14 t217.length co14, .int .i64 t220, .int .i64 t221, .slice Ao13 t222.length co13, .int .i64 t225, .int .i64 t226, .int .i64 0, .int .i64 0]) ?_ 10 _ rfl; (with_reducible repeat (first | refine blk_drewN ?_ _ | refine blk_drew ?_ | refine blk_alloc ?_ _)); refine blk_put (cs := #[.int .i64 a0_0, .int .i64 a0_1, .int .i64 a0_2, .slice none 0 0, .slice Ao14 t217.length co14, .int .i64 t220, .int .i64 t221, .slice Ao13 t222.length co13, .int .i64 t225, .int .i64 0, .int .i64 0, .int .i64 0]) ?_ 9 _ rfl; (with_reducible repeat (first | refine blk_drewN ?_ _ | refine blk_drew ?_ | refine blk_alloc ?_ _)); refine blk_put (cs := #[.int .i64 a0_0, .int .i64 a0_1, .int .i64 a0_2, .slice none 0 0, .slice Ao14 t217.length co14, .int .i64 t220, .int .i64 t221, .slice Ao13 t222.length co13, .int .i64 0, .int .i64 0, .int .i64 0, .int .i64 0]) ?_ 8 _ rfl; (with_reducible repeat (first | refine blk_drewN ?_ _ | refine blk_drew ?_ | refine blk_alloc ?_ _)); refine blk_put (cs := #[.int .i64 a0_0, .int .i64 a0_1, .int .i64 a0_2, .slice none 0 0, .slice Ao14 t217.length co14, .int .i64 t220, .int .i64 t221, .slice none 0 0, .int .i64 0, .int .i64 0, .int .i64 0, .int .i64 0]) ?_ 7 _ rfl; (with_reducible repeat (first | refine blk_drewN ?_ _ | refine blk_drew ?_ | refine blk_alloc ?_ _)); refine blk_put (cs := #[.int .i64 a0_0, .int .i64 a0_1, .int .i64 a0_2, .slice none 0 0, .slice Ao14 t217.length co14, .int .i64 t220, .int .i64 0, .slice none 0 0, .int .i64 0, .int .i64 0, .int .i64 0, .int .i64 0]) ?_ 6 _ rfl; (with_reducible repeat (first | refine blk_drewN ?_ _ | refine blk_drew ?_ | refine blk_alloc ?_ _)); refine blk_put (cs := #[.int .i64 a0_0, .int .i64 a0_1, .int .i64 a0_2, .slice none 0 0, .slice Ao14 t217.length co14, .int .i64 0, .int .i64 0, .slice none 0 0, .int .i64 0, .int .i64 0, .int .i64 0, .int .i64 0]) ?_ 5 _ rfl; (with_reducible repeat (first | refine blk_drewN ?_ _ | refine blk_drew ?_ | refine blk_alloc ?_ _)); refine blk_put (cs := #[.int .i64 a0_0, .int .i64 a0_1, .int .i64 a0_2, .slice none 0 0, .slice none 0 0, .int .i64 0, .int .i64 0, .slice none 0 0, .int .i64 0, .int .i64 0, .int .i64 0, .int .i64 0]) ?_ 4 _ rfl; (with_reducible repeat (first | refine blk_drewN ?_ _ | refine blk_drew ?_ | refine blk_alloc ?_ _)); refine blk_put (cs := #[.int .i64 a0_0, .int .i64 a0_1, .int .i64 a0_2, .slice none 0 0, .slice none 0 0, .int .i64 0, .int .i64 0, .slice none 0 0, .int .i64 0, .int .i64 0, .int .i64 0, .int .i64 0]) ?_ 3 _ rfl; (with_reducible repeat (first | refine blk_drewN ?_ _ | refine blk_drew ?_ | refine blk_alloc ?_ _)); refine blk_put (cs := #[.int .i64 a0_0, .int .i64 a0_1, .int .i64 0, .slice none 0 0, .slice none 0 0, .int .i64 0, .int .i64 0, .slice none 0 0, .int .i64 0, .int .i64 0, .int .i64 0, .int .i64 0]) ?_ 2 _ rfl; (with_reducible repeat (first | refine blk_drewN ?_ _ | refine blk_drew ?_ | refine blk_alloc ?_ _)); refine blk_put (cs := #[.int .i64 a0_0, .int .i64 0, .int .i64 0, .slice none 0 0, .slice none 0 0, .int .i64 0, .int .i64 0, .slice none 0 0, .int .i64 0, .int .i64 0, .int .i64 0, .int .i64 0]) ?_ 1 _ rfl; (with_reducible repeat (first | refine blk_drewN ?_ _ | refine blk_drew ?_ | refine blk_alloc ?_ _)); refine blk_put (cs := #[.int .i64 0, .int .i64 0, .int .i64 0, .slice none 0 0, .slice none 0 0, .int .i64 0, .int .i64 0, .slice none 0 0, .int .i64 0, .int .i64 0, .int .i64 0, .int .i64 0]) ?_ 0 _ rfl; exact Pst.qb BK227.out⟩, ⟨Pst.bes⟩⟩
 clear H'
 try clear p2
 try clear c4
 obtain ⟨x4_1, x228003_1, u228003, rfl, HA, HK1, HO_228003, HO_228004, HO_228007, BK215, BK216, BK227, HB⟩ := hrel
 cases gk with
 | zero => exact absurd HA.out (by simp [spec_l08Setup.l0])
 | succ k1 =>
  have H := HA.out
  clear HA
  simp only [spec_l08Setup.l0] at H
  by_cases c27 : x4_1 < (l0_3.length : Int)
  ·rw [if_pos c27] at H
   have c27b0 : decide (x4_1 < (l0_3.length : Int)) = true := decide_eq_true c27
   clear c27
   by_cases c28 : 0 ≤ x4_1
   ·rw [if_pos c28] at H
    have c28b0 : decide (0 ≤ x4_1) = true := decide_eq_true c28
    clear c28
    by_cases c29 : x228003_1.length < 4398046511104
    ·rw [if_pos c29] at H
     have LMc29 := Pst.A c29
     clear c29
     obtain ⟨y229, hy229⟩ : ∃ y_ : List (S82), y_ = (x228003_1 ++ [(⟨(rd_T82 l0_3 x4_1).f0, (rd_T82 l0_3 x4_1).f1, (rd_T82 l0_3 x4_1).f2⟩ : S82)]) := ⟨_, rfl⟩
     replace H : (spec_l08Setup.l0 k1 (wrap64 (x4_1 + 1)) a0_0 a0_1 a0_2 l0_3 l0_4 a0_5 a0_6 l0_7 a0_8 a0_9 a0_10 a0_11 a0_0 a0_1 a0_2 y229 t217 t220 t221 t222 t225 t226 a0_10 a0_11) = some (r1, r2, r3, r4, r5, r6, r7, r8, r9, r10, r11, r12) := by first | (rw [hy229]; with_reducible exact H) | (have H2_ := (Option.bind_some _ _).symm.trans H; rw [hy229]; with_reducible exact H2_) | (have H2_ := (Option.bind_some _ _).symm.trans H; with_reducible exact H2_) | with_reducible exact H | (rw [hy229]; exact H) | exact H
     have Ny229 := Pst.A hy229
     clear hy229
     have H' := Pst.A H
     clear H
     have hnb30 := NB215_216.out
     have hnc30 := NB216_215.out
     have hnb31 := NB215_227.out
     have hnc31 := NB227_215.out
     obtain ⟨_,_,_,_,_,_,_,_,_,_,_,_⟩ := Pst.c12 BK215.out
     obtain ⟨_,_,_,_,_,_,_,_,_,_,_,_⟩ := Pst.f12 BK215.out
     try go_wp2
     replace HO_228003 := Pst.A (Kd.R_drew HO_228003.out)
     replace HO_228004 := Pst.A (Kd.R_drew HO_228004.out)
     replace HO_228007 := Pst.A (Kd.R_drew HO_228007.out)
     replace BK215 := Pst.A (blk_drew BK215.out)
     replace BK216 := Pst.A (blk_drew BK216.out)
     replace BK227 := Pst.A (blk_drew BK227.out)
     replace HB := Pst.A (below_drew1 HB.out)
     have p228 : 0 ≤ (x4_1 : Int) := Pst.da
     have q228 : x4_1 < (l0_3.length : Int) := Pst.da
     obtain ⟨ad228, e228, hx228_0, hx228_1, hx228_2⟩ := at_T82 HR0_3.out x4_1 p228 q228
     have hw228_2 := hx228_2
     have hw228_1 := hx228_1
     have hw228_0 := hx228_0
     cases e228
     replace hx228_0 := (HB.out.cell (World.block_lt_of_cell? w _ hx228_0)).trans hx228_0
     replace hx228_1 := (HB.out.cell (World.block_lt_of_cell? w _ hx228_1)).trans hx228_1
     replace hx228_2 := (HB.out.cell (World.block_lt_of_cell? w _ hx228_2)).trans hx228_2
     replace p228 := eq_true p228
     replace q228 := eq_true q228
     refine start_ (n := 11) (S := fun w' => w'.cell? ⟨gb227, 0, none⟩ = some (.int .i64 a0_0) ∧ w'.cell? ⟨gb227, 1, none⟩ = some (.int .i64 a0_1) ∧ w'.cell? ⟨gb227, 2, none⟩ = some (.int .i64 a0_2) ∧ w'.cell? ⟨gb227, 3, none⟩ = some (u228003) ∧ w'.cell? ⟨gb227, 4, none⟩ = some (.slice Ao14 t217.length co14) ∧ w'.cell? ⟨gb227, 5, none⟩ = some (.int .i64 t220) ∧ w'.cell? ⟨gb227, 6, none⟩ = some (.int .i64 t221) ∧ w'.cell? ⟨gb227, 7, none⟩ = some (.slice Ao13 t222.length co13) ∧ w'.cell? ⟨gb227, 8, none⟩ = some (.int .i64 t225) ∧ w'.cell? ⟨gb227, 9, none⟩ = some (.int .i64 t226) ∧ w'.cell? ⟨gb227, 10, none⟩ = some (.int .i64 a0_10) ∧ w'.cell? ⟨gb227, 11, none⟩ = some (.int .i64 a0_11) ∧ w'.cell? ⟨gb215, 0, none⟩ = some (.int .i64 a0_0) ∧ w'.cell? ⟨gb215, 1, none⟩ = some (.int .i64 a0_1) ∧ w'.cell? ⟨gb215, 2, none⟩ = some (.int .i64 a0_2) ∧ w'.cell? ⟨gb215, 3, none⟩ = some (.slice (some ad228) l0_3.length c0_3) ∧ w'.cell? ⟨gb215, 4, none⟩ = some (.slice A0_4 l0_4.length c0_4) ∧ w'.cell? ⟨gb215, 5, none⟩ = some (.int .i64 a0_5) ∧ w'.cell? ⟨gb215, 6, none⟩ = some (.int .i64 a0_6) ∧ w'.cell? ⟨gb215, 7, none⟩ = some (.slice A0_7 l0_7.length c0_7) ∧ w'.cell? ⟨gb215, 8, none⟩ = some (.int .i64 a0_8) ∧ w'.cell? ⟨gb215, 9, none⟩ = some (.int .i64 a0_9) ∧ w'.cell? ⟨gb215, 10, none⟩ = some (.int .i64 a0_10) ∧ w'.cell? ⟨gb215, 11, none⟩ = some (.int .i64 a0_11) ∧ w'.cell? (ad228.add ((x4_1).toNat * 3)) = some (.string ((rd_T82 l0_3 x4_1).f0)) ∧ w'.cell? ⟨(ad228.add ((x4_1).toNat * 3)).block, (ad228.add ((x4_1).toNat * 3)).off + 1, none⟩ = some (.int .i64 ((rd_T82 l0_3 x4_1).f1)) ∧ w'.cell? ⟨(ad228.add ((x4_1).toNat * 3)).block, (ad228.add ((x4_1).toNat * 3)).off + 2, none⟩ = some (.int .i64 ((rd_T82 l0_3 x4_1).f2))) (ds := [10]) #[false, false, false, false, false, false, false, false, false, false, false] (by kernel_rfl) rfl rfl ⟨(blk_cell BK227.out 0).trans rfl, (blk_cell BK227.out 1).trans rfl, (blk_cell BK227.out 2).trans rfl, (blk_cell BK227.out 3).trans rfl, (blk_cell BK227.out 4).trans rfl, (blk_cell BK227.out 5).trans rfl, (blk_cell BK227.out 6).trans rfl, (blk_cell BK227.out 7).trans rfl, (blk_cell BK227.out 8).trans rfl, (blk_cell BK227.out 9).trans rfl, (blk_cell BK227.out 10).trans rfl, (blk_cell BK227.out 11).trans rfl, (blk_cell BK215.out 0).trans rfl, (blk_cell BK215.out 1).trans rfl, (blk_cell BK215.out 2).trans rfl, (blk_cell BK215.out 3).trans rfl, (blk_cell BK215.out 4).trans rfl, (blk_cell BK215.out 5).trans rfl, (blk_cell BK215.out 6).trans rfl, (blk_cell BK215.out 7).trans rfl, (blk_cell BK215.out 8).trans rfl, (blk_cell BK215.out 9).trans rfl, (blk_cell BK215.out 10).trans rfl, (blk_cell BK215.out 11).trans rfl, ((HB.out.cell (World.block_lt_of_cell? w _ hw228_0)).trans hw228_0), ((HB.out.cell (World.block_lt_of_cell? w _ hw228_1)).trans hw228_1), ((HB.out.cell (World.block_lt_of_cell? w _ hw228_2)).trans hw228_2)⟩ (fun hHeld => ?_); refine with_tabW spec_l08Setup.tab5 spec_l08Setup.bits5 (fun HT_ HW_ => ?_)
     generalize wr.drew = w33 at HO_228003 HO_228004 HO_228007 BK215 BK216 BK227 HB hx228_0 hx228_1 hx228_2 hHeld ⊢
     refine pure_ (i := 0) (N := some 30) (v := ?_) (a' := ?_) #[true, false, false, false, false, false, false, false, false, false, false] rfl rfl (any_of HT_.out (by kernel_rfl)) (fun _ _ _ h => h) (Or.inl ⟨by rfl, ?_⟩) ?_ ?_
     rotate_left
     ·intro w'
      go_simp
      with_reducible rfl
     rotate_left
     ·simp only [Pst.all]
      rfl
     refine pure_ (i := 2) (N := some 32) (v := ?_) (a' := ?_) #[true, false, true, false, false, false, false, false, false, false, false] rfl rfl (any_of HT_.out (by kernel_rfl)) (fun _ _ _ h => h) (Or.inl ⟨by rfl, ?_⟩) ?_ ?_
     rotate_left
     ·intro w'
      go_simp
      with_reducible rfl
     rotate_left
     ·simp only [Pst.all]
      rfl
     refine pure_ (i := 4) (N := some 34) (v := ?_) (a' := ?_) #[true, false, true, false, true, false, false, false, false, false, false] rfl rfl (any_of HT_.out (by kernel_rfl)) (fun _ _ _ h => h) (Or.inl ⟨by rfl, ?_⟩) ?_ ?_
     rotate_left
     ·intro w'
      go_simp
      with_reducible rfl
     rotate_left
     ·simp only [Pst.all]
      rfl
     refine take_ (i := 1) (N := some 31) (v := ?_) (a' := ?_) #[true, true, true, false, true, false, false, false, false, false, false] rfl rfl (take_ofW HT_.out HW_.out (by kernel_rfl)) (fun _ _ _ h => h) (Or.inl ⟨by rfl, ?_⟩) hHeld ?_ ?_
     rotate_left
     ·rintro w' ⟨s0, s1, s2, s3, s4, s5, s6, s7, s8, s9, s10, s11, s12, s13, s14, s15, s16, s17, s18, s19, s20, s21, s22, s23, s24, s25, s26⟩
      go_simp
      with_reducible rfl
     rotate_left
     ·simp only [Pst.all]
      rfl
     refine take_ (i := 3) (N := some 33) (v := ?_) (a' := ?_) #[true, true, true, true, true, false, false, false, false, false, false] rfl rfl (take_ofW HT_.out HW_.out (by kernel_rfl)) (fun _ _ _ h => h) (Or.inl ⟨by rfl, ?_⟩) hHeld ?_ ?_
     rotate_left
     ·rintro w' ⟨s0, s1, s2, s3, s4, s5, s6, s7, s8, s9, s10, s11, s12, s13, s14, s15, s16, s17, s18, s19, s20, s21, s22, s23, s24, s25, s26⟩
      go_simp
      with_reducible rfl
     rotate_left
     ·simp only [Pst.all]
      rfl
     refine pure_ (i := 5) (N := some 35) (v := ?_) (a' := ?_) #[true, true, true, true, true, true, false, false, false, false, false] rfl rfl (any_of HT_.out (by kernel_rfl)) (fun _ _ _ h => h) (Or.inl ⟨by rfl, ?_⟩) ?_ ?_
     rotate_left
     ·intro w'
      go_simp
      with_reducible rfl
     rotate_left
     ·simp only [Pst.all]
      rfl
     refine take_ (i := 6) (N := some 36) (v := ?_) (a' := ?_) #[true, true, true, true, true, true, true, false, false, false, false] rfl rfl (take_ofW HT_.out HW_.out (by kernel_rfl)) (fun _ _ _ h => h) (Or.inl ⟨by rfl, ?_⟩) hHeld ?_ ?_
     rotate_left
     ·rintro w' ⟨s0, s1, s2, s3, s4, s5, s6, s7, s8, s9, s10, s11, s12, s13, s14, s15, s16, s17, s18, s19, s20, s21, s22, s23, s24, s25, s26⟩
      go_simp
      with_reducible rfl
     rotate_left
     ·simp only [Pst.all]
      rfl
     refine one_ (i := 7) (N := some 37) #[true, true, true, true, true, true, true, true, false, false, false] rfl rfl (one_of HT_.out (by kernel_rfl)) (by decide) (fun K hK => ?_)
     refine value_ (w1 := ?_) (v := ?_) (by rfl) rfl ?_ ?_
     rotate_left 2
     ·go_simp
      constructor
      ·rfl
      rfl
     refine hK.out _ _ ⟨(blk_cell (blk_alloc BK227.out _) 0).trans rfl, (blk_cell (blk_alloc BK227.out _) 1).trans rfl, (blk_cell (blk_alloc BK227.out _) 2).trans rfl, (blk_cell (blk_alloc BK227.out _) 3).trans rfl, (blk_cell (blk_alloc BK227.out _) 4).trans rfl, (blk_cell (blk_alloc BK227.out _) 5).trans rfl, (blk_cell (blk_alloc BK227.out _) 6).trans rfl, (blk_cell (blk_alloc BK227.out _) 7).trans rfl, (blk_cell (blk_alloc BK227.out _) 8).trans rfl, (blk_cell (blk_alloc BK227.out _) 9).trans rfl, (blk_cell (blk_alloc BK227.out _) 10).trans rfl, (blk_cell (blk_alloc BK227.out _) 11).trans rfl, (blk_cell (blk_alloc BK215.out _) 0).trans rfl, (blk_cell (blk_alloc BK215.out _) 1).trans rfl, (blk_cell (blk_alloc BK215.out _) 2).trans rfl, (blk_cell (blk_alloc BK215.out _) 3).trans rfl, (blk_cell (blk_alloc BK215.out _) 4).trans rfl, (blk_cell (blk_alloc BK215.out _) 5).trans rfl, (blk_cell (blk_alloc BK215.out _) 6).trans rfl, (blk_cell (blk_alloc BK215.out _) 7).trans rfl, (blk_cell (blk_alloc BK215.out _) 8).trans rfl, (blk_cell (blk_alloc BK215.out _) 9).trans rfl, (blk_cell (blk_alloc BK215.out _) 10).trans rfl, (blk_cell (blk_alloc BK215.out _) 11).trans rfl, (World.cell?_alloc_lt _ _ _ (World.block_lt_of_cell? _ _ (((HB.out.cell (World.block_lt_of_cell? w _ hw228_0)).trans hw228_0)))).trans (((HB.out.cell (World.block_lt_of_cell? w _ hw228_0)).trans hw228_0)), (World.cell?_alloc_lt _ _ _ (World.block_lt_of_cell? _ _ (((HB.out.cell (World.block_lt_of_cell? w _ hw228_1)).trans hw228_1)))).trans (((HB.out.cell (World.block_lt_of_cell? w _ hw228_1)).trans hw228_1)), (World.cell?_alloc_lt _ _ _ (World.block_lt_of_cell? _ _ (((HB.out.cell (World.block_lt_of_cell? w _ hw228_2)).trans hw228_2)))).trans (((HB.out.cell (World.block_lt_of_cell? w _ hw228_2)).trans hw228_2))⟩ (fun hHeld => ?_)
     clear hK K
     refine norm_ (a' := ?_) ?_ ?_
     rotate_left
     ·show Act.put _ (some 37) _ = _
      simp only [Pst.all]
      rfl
     refine one_ (i := 8) (N := some 38) #[true, true, true, true, true, true, true, true, true, false, false] rfl rfl (one_of HT_.out (by kernel_rfl)) (by decide) (fun K hK => ?_)
     refine Kd.R_append_step k82 (w0 := w) w.heap.size (by rfl) (.tmp 31) (.tmp 37) 34 82 (.agg #[(.string ⟨#[]⟩), (.int .i64 0), (.int .i64 0)]) 32 rfl Tryz.underlying34 info82 rfl (by decide) (by omega) u228003 x228003_1 (⟨(rd_T82 l0_3 x4_1).f0, (rd_T82 l0_3 x4_1).f1, (rd_T82 l0_3 x4_1).f2⟩ : S82) [.string ((rd_T82 l0_3 x4_1).f0), .int .i64 ((rd_T82 l0_3 x4_1).f1), .int .i64 ((rd_T82 l0_3 x4_1).f2)] (fun _ => True) (fun _ => False) rfl rfl ?aP (fun _ hk => hk.elim) ?aF ?aO ?aB ?aS ?aL ?_
     (case aP => exact k82_mkM _ _ _ (⟨(rd_T82 l0_3 x4_1).f0, (rd_T82 l0_3 x4_1).f1, (rd_T82 l0_3 x4_1).f2⟩ : S82))
     (case aB => exact Pst.bes)
     (case aF => exact (fun _ _ => trivial))
     (case aO => exact (Pst.qr HO_228003.out))
     (case aS => exact (below_size Pst.bes))
     (case aL => have := LMc29.out; omega)
     intro v230 w34 ho hb hg hat
     rw [← Ny229.out] at ho
     have HO231 := Pst.A ho
     replace HO_228004 := Pst.A (Kd.R_over' (Pst.qr HO_228004.out) (Kd.R_typed (Pst.qr HO_228003.out)) (by decide) hg)
     replace HO_228007 := Pst.A (Kd.R_over' (Pst.qr HO_228007.out) (Kd.R_typed (Pst.qr HO_228003.out)) (by decide) hg)
     replace BK215 := Pst.A (blk_grown (g := gb215) (o := .cells #[.int .i64 a0_0, .int .i64 a0_1, .int .i64 a0_2, .slice (some ad228) l0_3.length c0_3, .slice A0_4 l0_4.length c0_4, .int .i64 a0_5, .int .i64 a0_6, .slice A0_7 l0_7.length c0_7, .int .i64 a0_8, .int .i64 a0_9, .int .i64 a0_10, .int .i64 a0_11] 41 (0, 0)) (Pst.qb BK215.out) hg (Kd.R_ne HO_228003.out BK215.out (by decide)))
     replace BK216 := Pst.A (blk_grown (g := gb216) (o := .cells #[.int .i64 0, .int .i64 0, .int .i64 0, .slice none 0 0, .slice none 0 0, .int .i64 0, .int .i64 0, .slice none 0 0, .int .i64 0, .int .i64 0, .int .i64 0, .int .i64 0] 41 (0, 0)) (Pst.qb BK216.out) hg (Kd.R_ne HO_228003.out BK216.out (by decide)))
     replace BK227 := Pst.A (blk_grown (g := gb227) (o := .cells #[.int .i64 a0_0, .int .i64 a0_1, .int .i64 a0_2, u228003, .slice Ao14 t217.length co14, .int .i64 t220, .int .i64 t221, .slice Ao13 t222.length co13, .int .i64 t225, .int .i64 t226, .int .i64 a0_10, .int .i64 a0_11] 41 (0, 0)) (Pst.qb BK227.out) hg (Kd.R_ne HO_228003.out BK227.out (by decide)))
     replace HB := Pst.A hb
     clear HO_228003 ho hb hg hat
     obtain ⟨Ao35, co35, eo35⟩ := Kd.R_slice HO231.out
     (first | subst eo35 | (injection eo35 with f1_ f2_ f3_; have f4_ := f1_.symm; have f5_ := f3_.symm; clear f1_ f2_ f3_; subst f4_; subst f5_))
     refine hK.out _ _ ⟨(blk_cell BK227.out 0).trans rfl, (blk_cell BK227.out 1).trans rfl, (blk_cell BK227.out 2).trans rfl, (blk_cell BK227.out 3).trans rfl, (blk_cell BK227.out 4).trans rfl, (blk_cell BK227.out 5).trans rfl, (blk_cell BK227.out 6).trans rfl, (blk_cell BK227.out 7).trans rfl, (blk_cell BK227.out 8).trans rfl, (blk_cell BK227.out 9).trans rfl, (blk_cell BK227.out 10).trans rfl, (blk_cell BK227.out 11).trans rfl, (blk_cell BK215.out 0).trans rfl, (blk_cell BK215.out 1).trans rfl, (blk_cell BK215.out 2).trans rfl, (blk_cell BK215.out 3).trans rfl, (blk_cell BK215.out 4).trans rfl, (blk_cell BK215.out 5).trans rfl, (blk_cell BK215.out 6).trans rfl, (blk_cell BK215.out 7).trans rfl, (blk_cell BK215.out 8).trans rfl, (blk_cell BK215.out 9).trans rfl, (blk_cell BK215.out 10).trans rfl, (blk_cell BK215.out 11).trans rfl, ((HB.out.cell (World.block_lt_of_cell? w _ hw228_0)).trans hw228_0), ((HB.out.cell (World.block_lt_of_cell? w _ hw228_1)).trans hw228_1), ((HB.out.cell (World.block_lt_of_cell? w _ hw228_2)).trans hw228_2)⟩ (fun hHeld => ?_)
     clear hK K
     refine norm_ (a' := ?_) ?_ ?_
     rotate_left
     ·show Act.put _ (some 38) _ = _
      simp only [Pst.all]
      rfl
     refine pure_ (i := 9) (N := some 39) (v := ?_) (a' := ?_) #[true, true, true, true, true, true, true, true, true, true, false] rfl rfl (any_of HT_.out (by kernel_rfl)) (fun _ _ _ h => h) (Or.inl ⟨by rfl, ?_⟩) ?_ ?_
     rotate_left
     ·intro w'
      go_simp
      with_reducible rfl
     rotate_left
     ·simp only [Pst.all]
      rfl
     refine last_ (i := 10) (N := none) #[true, true, true, true, true, true, true, true, true, true, true] rfl rfl (one_of HT_.out (by kernel_rfl)) (by decide) (fun K hK => ?_)
     have hs36 : w34.cell? ⟨gb227, 3, none⟩ = some (u228003) := (blk_cell BK227.out 3).trans rfl
     have hfs36 := blk_frozen BK227.out 3
     have hns36_0 := NB215_227.out
     have hns36_1 := NB216_227.out
     have hms36_0 := NB227_215.out
     have hms36_1 := NB227_216.out
     refine skip_ (w1 := ?_) (by rfl) rfl ?_ ?_
     rotate_left
     ·go_simp
      rfl
     refine hK.out _ _ ?_
     clear hK K
     refine done_ (done_of HT_.out (by kernel_rfl)) ?_
     try go_wp2
     go_roundg k1
     case measure => have := HK1.out; omega
     case rel => exact ⟨(wrap64 (x4_1 + 1)), (y229), (.slice Ao35 y229.length co35), Pst.e2, H', ⟨by have := HK1.out; omega⟩, ⟨by (with_reducible repeat (first | apply Kd.R_alloc | apply Kd.R_drewN | apply Kd.R_drew)); exact Kd.R_mono (Kd.R_far (p := ⟨gb227, 3, none⟩) (Kd.R_types HO231.out BK227.out (by decide)) (fun _ hk => hk.2) (.slice Ao35 y229.length co35)) (fun _ hk => trivial)⟩, ⟨by (with_reducible repeat (first | apply Kd.R_alloc | apply Kd.R_drewN | apply Kd.R_drew)); exact Kd.R_mono (Kd.R_far (p := ⟨gb227, 3, none⟩) (Kd.R_types HO_228004.out BK227.out (by decide)) (fun _ hk => hk.2) (.slice Ao35 y229.length co35)) (fun _ hk => hk.1)⟩, ⟨by (with_reducible repeat (first | apply Kd.R_alloc | apply Kd.R_drewN | apply Kd.R_drew)); exact Kd.R_mono (Kd.R_far (p := ⟨gb227, 3, none⟩) (Kd.R_types HO_228007.out BK227.out (by decide)) (fun _ hk => hk.2) (.slice Ao35 y229.length co35)) (fun _ hk => hk.1)⟩, ⟨by (with_reducible repeat (first | refine blk_drewN ?_ _ | refine blk_drew ?_ | refine blk_alloc ?_ _)); refine blk_far ?_ NB215_227.out _; exact Pst.qb BK215.out⟩, ⟨by (with_reducible repeat (first | refine blk_drewN ?_ _ | refine blk_drew ?_ | refine blk_alloc ?_ _)); refine blk_far ?_ NB216_227.out _; exact Pst.qb BK216.out⟩, ⟨by (with_reducible repeat (first | refine blk_drewN ?_ _ | refine blk_drew ?_ | refine blk_alloc ?_ _)); refine blk_put (cs := #[.int .i64 a0_0, .int .i64 a0_1, .int .i64 a0_2, u228003, .slice Ao14 t217.length co14, .int .i64 t220, .int .i64 t221, .slice Ao13 t222.length co13, .int .i64 t225, .int .i64 t226, .int .i64 a0_10, .int .i64 a0_11]) ?_ 3 _ rfl; exact Pst.qb BK227.out⟩, ⟨Pst.bes⟩⟩
    rw [if_neg c29] at H
    exact absurd H (by simp)
   rw [if_neg c28] at H
   exact absurd H (by simp)
  rw [if_neg c27] at H
  have c27b0 : decide (x4_1 < (l0_3.length : Int)) = false := decide_eq_false c27
  clear c27
  simp only [Option.some.injEq, Prod.mk.injEq] at H
  obtain ⟨rfl, rfl, rfl, rfl, rfl, rfl, rfl, rfl, rfl, rfl, rfl, rfl⟩ := H
  have hnb37 := NB215_216.out
  have hnc37 := NB216_215.out
  have hnb38 := NB215_227.out
  have hnc38 := NB227_215.out
  obtain ⟨_,_,_,_,_,_,_,_,_,_,_,_⟩ := Pst.c12 BK215.out
  obtain ⟨_,_,_,_,_,_,_,_,_,_,_,_⟩ := Pst.f12 BK215.out
  have hnb40 := NB227_216.out
  have hnc40 := NB216_227.out
  obtain ⟨_,_,_,_,_,_,_,_,_,_,_,_⟩ := Pst.c12 BK227.out
  obtain ⟨_,_,_,_,_,_,_,_,_,_,_,_⟩ := Pst.f12 BK227.out
  obtain ⟨_,_,_,_,_,_,_,_,_,_,_,_⟩ := Pst.c12 BK216.out
  obtain ⟨_,_,_,_,_,_,_,_,_,_,_,_⟩ := Pst.f12 BK216.out
  obtain ⟨Ao43, co43, eo43⟩ := Kd.R_slice HO_228003.out
  subst eo43
  go_wp2
  refine bodyPost_ret (results_cell_row rfl _ _ gb216 41 #[.int .i64 a0_0, .int .i64 a0_1, .int .i64 a0_2, .slice Ao43 x228003_1.length co43, .slice Ao14 t217.length co14, .int .i64 t220, .int .i64 t221, .slice Ao13 t222.length co13, .int .i64 t225, .int .i64 t226, .int .i64 a0_10, .int .i64 a0_11] (0, 0) _ rfl (by (with_reducible repeat (first | refine blk_drewN ?_ _ | refine blk_drew ?_ | refine blk_alloc ?_ _)); refine blk_put (cs := #[.int .i64 a0_0, .int .i64 a0_1, .int .i64 a0_2, .slice Ao43 x228003_1.length co43, .slice Ao14 t217.length co14, .int .i64 t220, .int .i64 t221, .slice Ao13 t222.length co13, .int .i64 t225, .int .i64 t226, .int .i64 a0_10, .int .i64 0]) ?_ 11 _ rfl; (with_reducible repeat (first | refine blk_drewN ?_ _ | refine blk_drew ?_ | refine blk_alloc ?_ _)); refine blk_put (cs := #[.int .i64 a0_0, .int .i64 a0_1, .int .i64 a0_2, .slice Ao43 x228003_1.length co43, .slice Ao14 t217.length co14, .int .i64 t220, .int .i64 t221, .slice Ao13 t222.length co13, .int .i64 t225, .int .i64 t226, .int .i64 0, .int .i64 0]) ?_ 10 _ rfl; (with_reducible repeat (first | refine blk_drewN ?_ _ | refine blk_drew ?_ | refine blk_alloc ?_ _)); refine blk_put (cs := #[.int .i64 a0_0, .int .i64 a0_1, .int .i64 a0_2, .slice Ao43 x228003_1.length co43, .slice Ao14 t217.length co14, .int .i64 t220, .int .i64 t221, .slice Ao13 t222.length co13, .int .i64 t225, .int .i64 0, .int .i64 0, .int .i64 0]) ?_ 9 _ rfl; (with_reducible repeat (first | refine blk_drewN ?_ _ | refine blk_drew ?_ | refine blk_alloc ?_ _)); refine blk_put (cs := #[.int .i64 a0_0, .int .i64 a0_1, .int .i64 a0_2, .slice Ao43 x228003_1.length co43, .slice Ao14 t217.length co14, .int .i64 t220, .int .i64 t221, .slice Ao13 t222.length co13, .int .i64 0, .int .i64 0, .int .i64 0, .int .i64 0]) ?_ 8 _ rfl; (with_reducible repeat (first | refine blk_drewN ?_ _ | refine blk_drew ?_ | refine blk_alloc ?_ _)); refine blk_put (cs := #[.int .i64 a0_0, .int .i64 a0_1, .int .i64 a0_2, .slice Ao43 x228003_1.length co43, .slice Ao14 t217.length co14, .int .i64 t220, .int .i64 t221, .slice none 0 0, .int .i64 0, .int .i64 0, .int .i64 0, .int .i64 0]) ?_ 7 _ rfl; (with_reducible repeat (first | refine blk_drewN ?_ _ | refine blk_drew ?_ | refine blk_alloc ?_ _)); refine blk_put (cs := #[.int .i64 a0_0, .int .i64 a0_1, .int .i64 a0_2, .slice Ao43 x228003_1.length co43, .slice Ao14 t217.length co14, .int .i64 t220, .int .i64 0, .slice none 0 0, .int .i64 0, .int .i64 0, .int .i64 0, .int .i64 0]) ?_ 6 _ rfl; (with_reducible repeat (first | refine blk_drewN ?_ _ | refine blk_drew ?_ | refine blk_alloc ?_ _)); refine blk_put (cs := #[.int .i64 a0_0, .int .i64 a0_1, .int .i64 a0_2, .slice Ao43 x228003_1.length co43, .slice Ao14 t217.length co14, .int .i64 0, .int .i64 0, .slice none 0 0, .int .i64 0, .int .i64 0, .int .i64 0, .int .i64 0]) ?_ 5 _ rfl; (with_reducible repeat (first | refine blk_drewN ?_ _ | refine blk_drew ?_ | refine blk_alloc ?_ _)); refine blk_put (cs := #[.int .i64 a0_0, .int .i64 a0_1, .int .i64 a0_2, .slice Ao43 x228003_1.length co43, .slice none 0 0, .int .i64 0, .int .i64 0, .slice none 0 0, .int .i64 0, .int .i64 0, .int .i64 0, .int .i64 0]) ?_ 4 _ rfl; (with_reducible repeat (first | refine blk_drewN ?_ _ | refine blk_drew ?_ | refine blk_alloc ?_ _)); refine blk_put (cs := #[.int .i64 a0_0, .int .i64 a0_1, .int .i64 a0_2, .slice none 0 0, .slice none 0 0, .int .i64 0, .int .i64 0, .slice none 0 0, .int .i64 0, .int .i64 0, .int .i64 0, .int .i64 0]) ?_ 3 _ rfl; (with_reducible repeat (first | refine blk_drewN ?_ _ | refine blk_drew ?_ | refine blk_alloc ?_ _)); refine blk_put (cs := #[.int .i64 a0_0, .int .i64 a0_1, .int .i64 0, .slice none 0 0, .slice none 0 0, .int .i64 0, .int .i64 0, .slice none 0 0, .int .i64 0, .int .i64 0, .int .i64 0, .int .i64 0]) ?_ 2 _ rfl; (with_reducible repeat (first | refine blk_drewN ?_ _ | refine blk_drew ?_ | refine blk_alloc ?_ _)); refine blk_put (cs := #[.int .i64 a0_0, .int .i64 0, .int .i64 0, .slice none 0 0, .slice none 0 0, .int .i64 0, .int .i64 0, .slice none 0 0, .int .i64 0, .int .i64 0, .int .i64 0, .int .i64 0]) ?_ 1 _ rfl; (with_reducible repeat (first | refine blk_drewN ?_ _ | refine blk_drew ?_ | refine blk_alloc ?_ _)); refine blk_put (cs := #[.int .i64 0, .int .i64 0, .int .i64 0, .slice none 0 0, .slice none 0 0, .int .i64 0, .int .i64 0, .slice none 0 0, .int .i64 0, .int .i64 0, .int .i64 0, .int .i64 0]) ?_ 0 _ rfl; exact Pst.qb BK216.out) Tryz.underlying41 rfl (by kernel_rfl)) rfl ?_
  exact ⟨_, _, _, Pst.e1, by (with_reducible repeat (first | apply Kd.R_alloc | apply Kd.R_drewN | apply Kd.R_drew)); exact Kd.R_mono (Kd.R_far (p := ⟨gb216, 11, none⟩) (Kd.R_far (p := ⟨gb216, 10, none⟩) (Kd.R_far (p := ⟨gb216, 9, none⟩) (Kd.R_far (p := ⟨gb216, 8, none⟩) (Kd.R_far (p := ⟨gb216, 7, none⟩) (Kd.R_far (p := ⟨gb216, 6, none⟩) (Kd.R_far (p := ⟨gb216, 5, none⟩) (Kd.R_far (p := ⟨gb216, 4, none⟩) (Kd.R_far (p := ⟨gb216, 3, none⟩) (Kd.R_far (p := ⟨gb216, 2, none⟩) (Kd.R_far (p := ⟨gb216, 1, none⟩) (Kd.R_far (p := ⟨gb216, 0, none⟩) (Kd.R_types HO_228003.out BK216.out (by decide)) (fun _ hk => hk.2) (.int .i64 a0_0)) (fun _ hk => hk.2) (.int .i64 a0_1)) (fun _ hk => hk.2) (.int .i64 a0_2)) (fun _ hk => hk.2) (.slice Ao43 x228003_1.length co43)) (fun _ hk => hk.2) (.slice Ao14 t217.length co14)) (fun _ hk => hk.2) (.int .i64 t220)) (fun _ hk => hk.2) (.int .i64 t221)) (fun _ hk => hk.2) (.slice Ao13 t222.length co13)) (fun _ hk => hk.2) (.int .i64 t225)) (fun _ hk => hk.2) (.int .i64 t226)) (fun _ hk => hk.2) (.int .i64 a0_10)) (fun _ hk => hk.2) (.int .i64 a0_11)) (fun _ hk => trivial), by (with_reducible repeat (first | apply Kd.R_alloc | apply Kd.R_drewN | apply Kd.R_drew)); exact Kd.R_mono (Kd.R_far (p := ⟨gb216, 11, none⟩) (Kd.R_far (p := ⟨gb216, 10, none⟩) (Kd.R_far (p := ⟨gb216, 9, none⟩) (Kd.R_far (p := ⟨gb216, 8, none⟩) (Kd.R_far (p := ⟨gb216, 7, none⟩) (Kd.R_far (p := ⟨gb216, 6, none⟩) (Kd.R_far (p := ⟨gb216, 5, none⟩) (Kd.R_far (p := ⟨gb216, 4, none⟩) (Kd.R_far (p := ⟨gb216, 3, none⟩) (Kd.R_far (p := ⟨gb216, 2, none⟩) (Kd.R_far (p := ⟨gb216, 1, none⟩) (Kd.R_far (p := ⟨gb216, 0, none⟩) (Kd.R_types HO_228004.out BK216.out (by decide)) (fun _ hk => hk.2) (.int .i64 a0_0)) (fun _ hk => hk.2) (.int .i64 a0_1)) (fun _ hk => hk.2) (.int .i64 a0_2)) (fun _ hk => hk.2) (.slice Ao43 x228003_1.length co43)) (fun _ hk => hk.2) (.slice Ao14 t217.length co14)) (fun _ hk => hk.2) (.int .i64 t220)) (fun _ hk => hk.2) (.int .i64 t221)) (fun _ hk => hk.2) (.slice Ao13 t222.length co13)) (fun _ hk => hk.2) (.int .i64 t225)) (fun _ hk => hk.2) (.int .i64 t226)) (fun _ hk => hk.2) (.int .i64 a0_10)) (fun _ hk => hk.2) (.int .i64 a0_11)) (fun _ hk => hk.1), by (with_reducible repeat (first | apply Kd.R_alloc | apply Kd.R_drewN | apply Kd.R_drew)); exact Kd.R_mono (Kd.R_far (p := ⟨gb216, 11, none⟩) (Kd.R_far (p := ⟨gb216, 10, none⟩) (Kd.R_far (p := ⟨gb216, 9, none⟩) (Kd.R_far (p := ⟨gb216, 8, none⟩) (Kd.R_far (p := ⟨gb216, 7, none⟩) (Kd.R_far (p := ⟨gb216, 6, none⟩) (Kd.R_far (p := ⟨gb216, 5, none⟩) (Kd.R_far (p := ⟨gb216, 4, none⟩) (Kd.R_far (p := ⟨gb216, 3, none⟩) (Kd.R_far (p := ⟨gb216, 2, none⟩) (Kd.R_far (p := ⟨gb216, 1, none⟩) (Kd.R_far (p := ⟨gb216, 0, none⟩) (Kd.R_types HO_228007.out BK216.out (by decide)) (fun _ hk => hk.2) (.int .i64 a0_0)) (fun _ hk => hk.2) (.int .i64 a0_1)) (fun _ hk => hk.2) (.int .i64 a0_2)) (fun _ hk => hk.2) (.slice Ao43 x228003_1.length co43)) (fun _ hk => hk.2) (.slice Ao14 t217.length co14)) (fun _ hk => hk.2) (.int .i64 t220)) (fun _ hk => hk.2) (.int .i64 t221)) (fun _ hk => hk.2) (.slice Ao13 t222.length co13)) (fun _ hk => hk.2) (.int .i64 t225)) (fun _ hk => hk.2) (.int .i64 t226)) (fun _ hk => hk.2) (.int .i64 a0_10)) (fun _ hk => hk.2) (.int .i64 a0_11)) (fun _ hk => hk.1), Pst.bes⟩
theorem spec_l08Setup.l0.st {x4 : Int} {x216000 : Int} {x216001 : Int} {x216002 : Int} {x216003 : List (S82)} {x216004 : List (S102)} {x216005 : Int} {x216006 : Int} {x216007 : List (S102)} {x216008 : Int} {x216009 : Int} {x216010 : Int} {x216011 : Int} {x228000 : Int} {x228001 : Int} {x228002 : Int} {x228003 : List (S82)} {x228004 : List (S102)} {x228005 : Int} {x228006 : Int} {x228007 : List (S102)} {x228008 : Int} {x228009 : Int} {x228010 : Int} {x228011 : Int} {r : (Int × Int × Int × (List (S82)) × (List (S102)) × Int × Int × (List (S102)) × Int × Int × Int × Int)} (H : Ev (fun k => if x4 < (x216003.length : Int) then (if 0 ≤ x4 then (if x228003.length < 4398046511104 then (spec_l08Setup.l0 k (wrap64 (x4 + 1)) x216000 x216001 x216002 x216003 x216004 x216005 x216006 x216007 x216008 x216009 x216010 x216011 x228000 x228001 x228002 (x228003 ++ [(⟨(rd_T82 x216003 x4).f0, (rd_T82 x216003 x4).f1, (rd_T82 x216003 x4).f2⟩ : S82)]) x228004 x228005 x228006 x228007 x228008 x228009 x228010 x228011) else (none)) else (none)) else (some (x228000, x228001, x228002, x228003, x228004, x228005, x228006, x228007, x228008, x228009, x228010, x228011))) r) : Ev (fun k => spec_l08Setup.l0 k x4 x216000 x216001 x216002 x216003 x216004 x216005 x216006 x216007 x216008 x216009 x216010 x216011 x228000 x228001 x228002 x228003 x228004 x228005 x228006 x228007 x228008 x228009 x228010 x228011) r := Ev.step (fun k => spec_l08Setup.l0.eq_2 x4 x216000 x216001 x216002 x216003 x216004 x216005 x216006 x216007 x216008 x216009 x216010 x216011 x228000 x228001 x228002 x228003 x228004 x228005 x228006 x228007 x228008 x228009 x228010 x228011 k) H

/-! ### spec_l01Value: function 68 -/
def spec_l01Value.f (a0 : Int) : Option (Bool) := (spec_l01In.f a0 (-1000000000) 1000000000).bind fun t232 => (some t232)
theorem spec_l01Value.calls (a0 : Int) (r : Bool) (w : World) (h : spec_l01Value.f a0 = some r) :
    Calls Tryz.prog 68 #[.int .i64 a0] w fun e w' => e = .returned (.bool r) ∧ Drawn0 w w' := by
 have H : ((spec_l01In.f a0 (-1000000000) 1000000000).bind fun t232 => (some t232)) = some r := h
 clear h
 obtain ⟨t232, A20, H⟩ := Pst.bd H
 have A2 := Pst.A A20
 clear A20
 obtain rfl := Option.some.inj H
 go_enter Tryz.func68, Tryz.ntmps68
 go_wp2_with (first | ((with_reducible refine gate_callee (f := 42) rfl ?_); refine goesL_ (some 4) rfl rfl Tryz.func42 (by kernel_rfl) rfl #[.int .i64 a0, .int .i64 (-1000000000), .int .i64 1000000000] rfl Pst.ga ?_; (with_reducible refine (spec_l01In.calls a0 (-1000000000) 1000000000 t232 _ A2.out).mono ?_); rintro e w' ⟨rfl, ⟨nd, rfl⟩⟩; refine ⟨_, rfl, ?_⟩))
 go_ret
 exact ⟨Pst.e2, by repeat (first | exact Drawn0.refl _ | apply Drawn0.step)⟩

/-! ### spec_MilliText: function 45 -/
mutual
def spec_MilliText.j0 : Nat → Int → ByteArray → Option (ByteArray)
 | 0, _, _ => none
 | k + 1, x0, x3 => (spec_l01Num.f k (wrap64 (Int.tdiv x0 1000))).bind fun t234 => (if x3.size + t234.size ≤ 9223372036854775807 then (if (Int.tmod x0 1000) = 0 then (some (x3 ++ t234)) else (spec_MilliText.l0 k (x3 ++ t234) (([(wrap64 (48 + (wrap64 (Int.tdiv (Int.tmod x0 1000) 100)))) % 256, (wrap64 (48 + (wrap64 (Int.tdiv (Int.tmod x0 100) 10)))) % 256, (wrap64 (48 + (Int.tmod x0 10))) % 256] : List Int)) 3)) else (none))
def spec_MilliText.l0 : Nat → ByteArray → List Int → Int → Option (ByteArray)
 | 0, _, _, _ => none
 | k + 1, x3, x4, x5 => if 0 ≤ (wrap64 (x5 - 1)) then (if (wrap64 (x5 - 1)) < (x4.length : Int) then (if (rd x4 (wrap64 (x5 - 1))) = 48 then (spec_MilliText.l0 k x3 x4 (wrap64 (x5 - 1))) else (if x3.size + 1 ≤ 9223372036854775807 then (if 0 ≤ x5 then (if x5 ≤ (x4.length : Int) then ((some (x4.take (x5 : Int).toNat : List Int)).bind fun y239 => (if (x3 ++ (⟨#[46]⟩ : ByteArray)).size + (strOfNums y239).size ≤ 9223372036854775807 then (some ((x3 ++ (⟨#[46]⟩ : ByteArray)) ++ (strOfNums y239))) else (none))) else (none)) else (none)) else (none))) else (none)) else (none)
end
def spec_MilliText.f (k : Nat) (a0 : Int) : Option (ByteArray) := (spec_l01Value.f a0).bind fun t233 => (if t233 = true then (if a0 < 0 then (spec_MilliText.j0 k (wrap64 (-a0)) (⟨#[45]⟩ : ByteArray)) else (spec_MilliText.j0 k a0 (⟨#[]⟩ : ByteArray))) else (some (⟨#[]⟩ : ByteArray)))
theorem spec_MilliText.mono_l : ∀ k, (∀ y0 y1, LeO (spec_MilliText.j0 k y0 y1) (spec_MilliText.j0 (k + 1) y0 y1)) ∧ (∀ y0 y1 y2, LeO (spec_MilliText.l0 k y0 y1 y2) (spec_MilliText.l0 (k + 1) y0 y1 y2))
 | 0 => ⟨fun _ _ r h => by simp [spec_MilliText.j0] at h, fun _ _ _ r h => by simp [spec_MilliText.l0] at h⟩
 | k + 1 => by
  obtain ⟨ih0, ih1⟩ := spec_MilliText.mono_l k
  refine ⟨?_, ?_⟩
  ·intro y0 y1
   unfold spec_MilliText.j0
   have m0 := @spec_l01Num.mono
   exact Pst.mo
  intro y0 y1 y2
  unfold spec_MilliText.l0
  have m0 := @spec_l01Num.mono
  exact Pst.mo
theorem spec_MilliText.mono : ∀ a0 k, LeO (spec_MilliText.f k a0) (spec_MilliText.f (k + 1) a0) := by
 intro a0 k
 obtain ⟨ih0, ih1⟩ := spec_MilliText.mono_l k
 unfold spec_MilliText.f
 have m0 := @spec_l01Num.mono
 exact Pst.mo
theorem spec_MilliText.calls (k : Nat) (a0 : Int) (r : ByteArray) (w : World) (h : spec_MilliText.f k a0 = some r) :
 Calls Tryz.prog 45 #[.int .i64 a0] w fun e w' => e = .returned (.string r) ∧ Below w.heap.size w w' := by
 have HB := Pst.A (Below.refl w.heap.size w)
 have H : ((spec_l01Value.f a0).bind fun t233 => (if t233 = true then (if a0 < 0 then (spec_MilliText.j0 k (wrap64 (-a0)) (⟨#[45]⟩ : ByteArray)) else (spec_MilliText.j0 k a0 (⟨#[]⟩ : ByteArray))) else (some (⟨#[]⟩ : ByteArray)))) = some r := h
 clear h
 obtain ⟨t233, A20, H⟩ := Pst.bd H
 have A2 := Pst.A A20
 clear A20
 by_cases c3 : t233 = true
 ·subst c3
  rw [if_pos rfl] at H
  have HC4 := Pst.A H
  clear H
  go_enter Tryz.func45, Tryz.ntmps45
  go_upto_if 10 with (first | ((with_reducible refine gate_callee (f := 68) rfl ?_); refine goesL_ (some 7) rfl rfl Tryz.func68 (by kernel_rfl) rfl #[.int .i64 a0] rfl Pst.ga ?_; (with_reducible refine (spec_l01Value.calls a0 true _ A2.out).mono ?_); rintro e w' ⟨rfl, ⟨nd, rfl⟩⟩; refine ⟨_, rfl, ?_⟩))
  (try simp only [Act.put, List.setIfInBounds_toArray, List.set_cons_zero, List.set_cons_succ])
  go_cut [0, 3] (fun v0 v3 wc => ∃ (kq : Nat) (x0_3 : Int) (x3_3 : ByteArray), v0 = .int .i64 x0_3 ∧ v3 = .string x3_3 ∧ Aside0 (spec_MilliText.j0 kq x0_3 x3_3 = some r) ∧ Aside0 (kq ≤ k) ∧ Aside0 (Below w.heap.size w wc))
  case first =>
   have H := HC4.out
   clear HC4
   by_cases c5 : a0 < 0
   ·rw [if_pos c5] at H
    have c5b0 : decide (a0 < 0) = true := decide_eq_true c5
    clear c5
    (first | rw [c5b0] | (simp only [i64_w, i32_w]; rw [c5b0]) | skip)
    have H' := Pst.A H
    clear H
    go_wp2
    go_meet
    case rel => exact ⟨_, (wrap64 (-a0)), ((⟨#[45]⟩ : ByteArray)), Pst.e2, Pst.e2, H', ⟨by first | omega | exact Nat.le_refl _⟩, ⟨Pst.bel⟩⟩
   rw [if_neg c5] at H
   have c5b0 : decide (a0 < 0) = false := decide_eq_false c5
   clear c5
   (first | rw [c5b0] | (simp only [i64_w, i32_w]; rw [c5b0]) | skip)
   have H' := Pst.A H
   clear H
   go_wp2
   go_meet
   case rel => exact ⟨_, (a0), ((⟨#[]⟩ : ByteArray)), Pst.e2, Pst.e2, H', ⟨by first | omega | exact Nat.le_refl _⟩, ⟨Pst.bel⟩⟩
  clear HC4
  try clear p2
  try clear c3
  try clear c4
  try clear c5
  try clear c5b0
  obtain ⟨kq, x0_3, x3_3, rfl, rfl, HA, HJ3, HB⟩ := hcut
  cases kq with
  | zero => exact absurd HA.out (by simp [spec_MilliText.j0])
  | succ kj3 =>
   have H := HA.out
   clear HA
   simp only [spec_MilliText.j0] at H
   obtain ⟨t234, A60, H⟩ := Pst.bd H
   have A6 := Pst.A A60
   clear A60
   by_cases c7 : x3_3.size + t234.size ≤ 9223372036854775807
   ·rw [if_pos c7] at H
    have c7b0 := eq_true c7
    have c7b1 : decide (x3_3.size + t234.size ≤ 9223372036854775807) = true := decide_eq_true c7
    try have c7b2 : (9223372036854775807 < x3_3.size + t234.size) = False := eq_false (Nat.not_lt.2 c7)
    by_cases c8 : (Int.tmod x0_3 1000) = 0
    ·rw [if_pos c8] at H
     have c8b0 : ((Int.tmod x0_3 1000) == 0) = true := beq_iff_eq.mpr c8
     have c8b1 : ((Int.tmod x0_3 1000) != 0) = false := bne_eq_false_iff_eq.mpr c8
     clear c8
     obtain rfl := Option.some.inj H
     go_wp2_with (first | ((with_reducible refine gate_callee (f := 43) rfl ?_); refine goesL_ (some 16) rfl rfl Tryz.func43 (by kernel_rfl) rfl #[.int .i64 (wrap64 (Int.tdiv x0_3 1000))] rfl Pst.ga ?_; (with_reducible refine (spec_l01Num.calls kj3 (wrap64 (Int.tdiv x0_3 1000)) t234 _ A6.out).mono ?_); rintro e w9 ⟨rfl, hb⟩; refine ⟨_, rfl, ?_⟩; replace HB := Pst.A (below_step Pst.bel hb); (try clear hb); (try clear hb2); (try clear hk); (try clear hi)))
     go_ret
     exact ⟨Pst.e1, Pst.bel⟩
    rw [if_neg c8] at H
    have c8b0 : ((Int.tmod x0_3 1000) == 0) = false := beq_eq_false_iff_ne.mpr c8
    have c8b1 : ((Int.tmod x0_3 1000) != 0) = true := bne_iff_ne.mpr c8
    obtain ⟨y235, hy235⟩ : ∃ y_ : List Int, y_ = (([(wrap64 (48 + (wrap64 (Int.tdiv (Int.tmod x0_3 1000) 100)))) % 256, (wrap64 (48 + (wrap64 (Int.tdiv (Int.tmod x0_3 100) 10)))) % 256, (wrap64 (48 + (Int.tmod x0_3 10))) % 256] : List Int)) := ⟨_, rfl⟩
    replace H : (spec_MilliText.l0 kj3 (x3_3 ++ t234) y235 3) = some r := by first | (rw [hy235]; with_reducible exact H) | (have H2_ := (Option.bind_some _ _).symm.trans H; rw [hy235]; with_reducible exact H2_) | (have H2_ := (Option.bind_some _ _).symm.trans H; with_reducible exact H2_) | with_reducible exact H | (rw [hy235]; exact H) | exact H
    have Ny235 := Pst.A hy235
    clear hy235
    have H' := Pst.A H
    clear H
    go_wp2_with (first | ((with_reducible refine gate_callee (f := 43) rfl ?_); refine goesL_ (some 16) rfl rfl Tryz.func43 (by kernel_rfl) rfl #[.int .i64 (wrap64 (Int.tdiv x0_3 1000))] rfl Pst.ga ?_; (with_reducible refine (spec_l01Num.calls kj3 (wrap64 (Int.tdiv x0_3 1000)) t234 _ A6.out).mono ?_); rintro e w10 ⟨rfl, hb⟩; refine ⟨_, rfl, ?_⟩; replace HB := Pst.A (below_step Pst.bel hb); (try clear hb); (try clear hb2); (try clear hk); (try clear hi)) | ((with_reducible refine gate_dst (N := 36) rfl ?_); refine Kd.R_lit (Kd.int .u8) _ 5 ?hg (N := 36) ?hd (xs := ([(wrap64 (48 + (wrap64 (Int.tdiv (Int.tmod x0_3 1000) 100)))) % 256, (wrap64 (48 + (wrap64 (Int.tdiv (Int.tmod x0_3 100) 10)))) % 256, (wrap64 (48 + (Int.tmod x0_3 10))) % 256] : List Int)) (inner := [.int .u8 ((wrap64 (48 + (wrap64 (Int.tdiv (Int.tmod x0_3 1000) 100)))) % 256), .int .u8 ((wrap64 (48 + (wrap64 (Int.tdiv (Int.tmod x0_3 100) 10)))) % 256), .int .u8 ((wrap64 (48 + (Int.tmod x0_3 10))) % 256)]) (ok := fun _ => True) (okp := fun _ => True) ?hr ?hp (fun _ hk => hk) trivial (Below.refl _ _) (Nat.le_refl _) (by simp) ?_; (case hd => rfl); (case hg => rfl); (case hr => exact Pst.gr); (case hp => exact (Reps.one (show Kd.M (Kd.int .u8) _ _ _ ((wrap64 (48 + (wrap64 (Int.tdiv (Int.tmod x0_3 1000) 100)))) % 256) [.int .u8 ((wrap64 (48 + (wrap64 (Int.tdiv (Int.tmod x0_3 1000) 100)))) % 256)] from rfl) (Reps.one (show Kd.M (Kd.int .u8) _ _ _ ((wrap64 (48 + (wrap64 (Int.tdiv (Int.tmod x0_3 100) 10)))) % 256) [.int .u8 ((wrap64 (48 + (wrap64 (Int.tdiv (Int.tmod x0_3 100) 10)))) % 256)] from rfl) (Reps.one (show Kd.M (Kd.int .u8) _ _ _ ((wrap64 (48 + (Int.tmod x0_3 10))) % 256) [.int .u8 ((wrap64 (48 + (Int.tmod x0_3 10))) % 256)] from rfl) (Reps.none _ _))))); intro v236 w11 ho12 hb hg_ hnew_; clear hg_ hnew_; (first | rw [← Ny235.out] at ho12 | (simp only [Int.reduceToNat] at ho12; rw [← Ny235.out] at ho12)); have HO237 := Pst.A (Kd.R_lower ho12 (below_size Pst.bel)); replace HB := Pst.A (below_step Pst.bel hb); clear hb ho12))
    go_loopg [5] kj3 (fun kq v5 w' => ∃ (x5_2 : Int), v5 = .int .i64 x5_2 ∧ Aside0 (spec_MilliText.l0 kq (x3_3 ++ t234) y235 x5_2 = some r) ∧ Aside0 (kq ≤ kj3) ∧ Aside0 (Kd.R (Kd.int .u8) 5 w' w.heap.size (fun _ => True) v236 y235) ∧ Aside0 (Below w.heap.size w w'))
    case atStart => exact ⟨(3), Pst.e2, H', ⟨Nat.le_refl _⟩, ⟨by (with_reducible repeat (first | apply Kd.R_alloc | apply Kd.R_drewN | apply Kd.R_drew)); exact HO237.out⟩, ⟨Pst.bel⟩⟩
    clear H'
    try clear p2
    try clear c3
    try clear c4
    try clear c5
    try clear c5b0
    try clear c6
    try clear p6
    try clear c7
    try clear c7b0
    try clear c7b1
    try clear c7b2
    try clear c8
    try clear c8b0
    try clear c8b1
    try clear p2
    obtain ⟨x5_2, rfl, HA, HK2, HO_4, HB⟩ := hrel
    cases gk with
    | zero => exact absurd HA.out (by simp [spec_MilliText.l0])
    | succ k2 =>
     have H := HA.out
     clear HA
     simp only [spec_MilliText.l0] at H
     obtain ⟨ji13, hji13⟩ : ∃ j_ : Int, (wrap64 (x5_2 - 1)) = j_ := ⟨_, rfl⟩
     replace H : (if 0 ≤ (ji13) then (if (ji13) < (y235.length : Int) then (if (rd y235 (ji13)) = 48 then (spec_MilliText.l0 k2 (x3_3 ++ t234) y235 ji13) else (if (x3_3 ++ t234).size + 1 ≤ 9223372036854775807 then (if 0 ≤ x5_2 then (if x5_2 ≤ (y235.length : Int) then ((some (y235.take (x5_2 : Int).toNat : List Int)).bind fun y239 => (if ((x3_3 ++ t234) ++ (⟨#[46]⟩ : ByteArray)).size + (strOfNums y239).size ≤ 9223372036854775807 then (some (((x3_3 ++ t234) ++ (⟨#[46]⟩ : ByteArray)) ++ (strOfNums y239))) else (none))) else (none)) else (none)) else (none))) else (none)) else (none)) = some r := by first | (rw [hji13] at H; exact H) | (simp only [hji13] at H ⊢; exact H)
     have hji13w : (IntKind.i64.wrap (x5_2 - 1)) = ji13 := (i64_w _).trans hji13
     by_cases c14 : 0 ≤ (ji13)
     ·rw [if_pos c14] at H
      have c14b0 : decide (0 ≤ (ji13)) = true := decide_eq_true c14
      clear c14
      by_cases c15 : (ji13) < (y235.length : Int)
      ·rw [if_pos c15] at H
       have c15b0 : decide ((ji13) < (y235.length : Int)) = true := decide_eq_true c15
       clear c15
       by_cases c16 : (rd y235 (ji13)) = 48
       ·rw [if_pos c16] at H
        have c16b0 : ((rd y235 (ji13)) == 48) = true := beq_iff_eq.mpr c16
        have c16b1 : ((rd y235 (ji13)) != 48) = false := bne_eq_false_iff_eq.mpr c16
        clear c16
        have H' := Pst.A H
        clear H
        obtain ⟨Ao17, co17, eo17⟩ := Kd.R_slice HO_4.out
        subst eo17
        have p238 : 0 ≤ ((ji13) : Int) := Pst.da
        have q238 : (ji13) < (y235.length : Int) := Pst.da
        obtain ⟨ad238, e238, hx238_0⟩ := Kd.at_int (Kd.R_reads' HO_4.out).2.2 (ji13) p238 q238
        cases e238
        replace p238 := eq_true p238
        replace q238 := eq_true q238
        go_wp2
        go_roundg k2
        case measure => have := HJ3.out; have := HK2.out; omega
        case rel => exact ⟨(ji13), (by first | rfl | (simp; done) | (simp only [← hji13] <;> (first | rfl | simp)) | (simp [*]; done)), H', ⟨by have := HJ3.out; have := HK2.out; omega⟩, ⟨by (with_reducible repeat (first | apply Kd.R_alloc | apply Kd.R_drewN | apply Kd.R_drew)); exact HO_4.out⟩, ⟨Pst.bel⟩⟩
       rw [if_neg c16] at H
       have c16b0 : ((rd y235 (ji13)) == 48) = false := beq_eq_false_iff_ne.mpr c16
       have c16b1 : ((rd y235 (ji13)) != 48) = true := bne_iff_ne.mpr c16
       by_cases c18 : (x3_3 ++ t234).size + 1 ≤ 9223372036854775807
       ·rw [if_pos c18] at H
        have c18b0 := eq_true c18
        have c18b1 : decide ((x3_3 ++ t234).size + 1 ≤ 9223372036854775807) = true := decide_eq_true c18
        try have c18b2 : (9223372036854775807 < (x3_3 ++ t234).size + 1) = False := eq_false (Nat.not_lt.2 c18)
        try have c18b3 : (9223372036854775807 < x3_3.size + t234.size + 1) = False := by rw [show x3_3.size + t234.size + 1 = (x3_3 ++ t234).size + 1 from (by first | (simp only [ByteArray.size_append]; done) | (simp only [ByteArray.size_append]; rfl) | rfl)]; exact c18b2
        by_cases c19 : 0 ≤ x5_2
        ·rw [if_pos c19] at H
         have c19b0 := eq_true c19
         have c19b1 : decide (0 ≤ x5_2) = true := decide_eq_true c19
         clear c19
         by_cases c20 : x5_2 ≤ (y235.length : Int)
         ·rw [if_pos c20] at H
          have c20b0 := eq_true c20
          have c20b1 : decide (x5_2 ≤ (y235.length : Int)) = true := decide_eq_true c20
          clear c20
          obtain ⟨y239, hy239⟩ : ∃ y_ : List Int, y_ = (y235.take (x5_2 : Int).toNat) := ⟨_, rfl⟩
          replace H : (if ((x3_3 ++ t234) ++ (⟨#[46]⟩ : ByteArray)).size + (strOfNums y239).size ≤ 9223372036854775807 then (some (((x3_3 ++ t234) ++ (⟨#[46]⟩ : ByteArray)) ++ (strOfNums y239))) else (none)) = some r := by first | (rw [hy239]; with_reducible exact H) | (have H2_ := (Option.bind_some _ _).symm.trans H; rw [hy239]; with_reducible exact H2_) | (have H2_ := (Option.bind_some _ _).symm.trans H; with_reducible exact H2_) | with_reducible exact H | (rw [hy239]; exact H) | exact H
          have Ny239 := Pst.A hy239
          clear hy239
          by_cases c21 : ((x3_3 ++ t234) ++ (⟨#[46]⟩ : ByteArray)).size + (strOfNums y239).size ≤ 9223372036854775807
          ·rw [if_pos c21] at H
           have c21b0 := eq_true c21
           have c21b1 : decide (((x3_3 ++ t234) ++ (⟨#[46]⟩ : ByteArray)).size + (strOfNums y239).size ≤ 9223372036854775807) = true := decide_eq_true c21
           try have c21b2 : (9223372036854775807 < ((x3_3 ++ t234) ++ (⟨#[46]⟩ : ByteArray)).size + (strOfNums y239).size) = False := eq_false (Nat.not_lt.2 c21)
           try have c21b3 : (9223372036854775807 < x3_3.size + t234.size + 1 + (strOfNums y239).size) = False := by rw [show x3_3.size + t234.size + 1 + (strOfNums y239).size = ((x3_3 ++ t234) ++ (⟨#[46]⟩ : ByteArray)).size + (strOfNums y239).size from (by first | (simp only [ByteArray.size_append]; done) | (simp only [ByteArray.size_append]; rfl) | rfl)]; exact c21b2
           obtain rfl := Option.some.inj H
           obtain ⟨Ao22, co22, eo22⟩ := Kd.R_slice HO_4.out
           subst eo22
           have p238 : 0 ≤ ((ji13) : Int) := Pst.da
           have q238 : (ji13) < (y235.length : Int) := Pst.da
           obtain ⟨ad238, e238, hx238_0⟩ := Kd.at_int (Kd.R_reads' HO_4.out).2.2 (ji13) p238 q238
           cases e238
           replace p238 := eq_true p238
           replace q238 := eq_true q238
           have q23 : (x5_2 : Int) ≤ ((y235.length : Int) : Int) := Pst.da
           obtain ⟨i023, hi023, _, hsz23, _⟩ := info_parts info5
           have hroom23 : y235.length ≤ co22 := (Kd.R_reads' HO_4.out).2.1
           have hC23 : Kd.C (Kd.int .u8) _ (some ad238) y235.length y235 := (Kd.R_reads' HO_4.out).2.2
           have hcut23 := cut_to (P := Tryz.prog) 100 5 .i64 Tryz.underlying100 hi023 (some ad238) y235.length co22 x5_2 (Pst.da) q23 hroom23
           have hr23 := Kd.C_take (m := (x5_2 : Int).toNat) hC23 (by omega)
           have hy23 : y239.length = (x5_2 : Int).toNat := (by rw [Ny239.out, List.length_take]; omega)
           rw [← Ny239.out] at hr23
           rw [← hy23] at hcut23
           have HR242 := Pst.A hr23
           have HC242 := Pst.A (show y239.length ≤ co22 from by omega)
           clear hr23 hC23 hroom23 hi023 hsz23
           have KY23 := Pst.A hy23
           clear hy23
           have KL23 := Pst.A (show (x5_2 : Int).toNat ≤ y235.length from by omega)
           replace q23 := eq_true q23
           have hcv24 := Kd.C_string (P := Tryz.prog) (A := (some ad238)) (c := co22) Tryz.underlying100 Tryz.underlying5 Tryz.underlying9 (by repeat (first | (with_reducible exact HR242.out) | (with_reducible refine Kd.C_alloc ?_ _) | (with_reducible refine Kd.C_drewN ?_ _) | (with_reducible refine Kd.C_drew ?_) | exact HR242.out))
           go_wp2
           go_ret
           exact ⟨by first | rfl | (simp [errW_none, errW_some] <;> rfl) | (simp only [← hji13]; first | rfl | (simp [errW_none, errW_some] <;> rfl)) | (simp [*, errW_none, errW_some] <;> rfl), Pst.bel⟩
          rw [if_neg c21] at H
          exact absurd H (by simp)
         rw [if_neg c20] at H
         exact absurd H (by simp)
        rw [if_neg c19] at H
        exact absurd H (by simp)
       rw [if_neg c18] at H
       exact absurd H (by simp)
      rw [if_neg c15] at H
      exact absurd H (by simp)
     rw [if_neg c14] at H
     exact absurd H (by simp)
   rw [if_neg c7] at H
   exact absurd H (by simp)
 replace c3 := Bool.eq_false_iff.mpr c3
 subst c3
 rw [if_neg Pst.ft] at H
 obtain rfl := Option.some.inj H
 go_enter Tryz.func45, Tryz.ntmps45
 go_wp2_with (first | ((with_reducible refine gate_callee (f := 68) rfl ?_); refine goesL_ (some 7) rfl rfl Tryz.func68 (by kernel_rfl) rfl #[.int .i64 a0] rfl Pst.ga ?_; (with_reducible refine (spec_l01Value.calls a0 false _ A2.out).mono ?_); rintro e w' ⟨rfl, ⟨nd, rfl⟩⟩; refine ⟨_, rfl, ?_⟩))
 go_ret
 exact ⟨Pst.e1, Pst.bel⟩
theorem spec_MilliText.j0.st {x0 : Int} {x3 : ByteArray} {r : (ByteArray)} (H : Ev (fun k => (spec_l01Num.f k (wrap64 (Int.tdiv x0 1000))).bind fun t234 => (if x3.size + t234.size ≤ 9223372036854775807 then (if (Int.tmod x0 1000) = 0 then (some (x3 ++ t234)) else (spec_MilliText.l0 k (x3 ++ t234) (([(wrap64 (48 + (wrap64 (Int.tdiv (Int.tmod x0 1000) 100)))) % 256, (wrap64 (48 + (wrap64 (Int.tdiv (Int.tmod x0 100) 10)))) % 256, (wrap64 (48 + (Int.tmod x0 10))) % 256] : List Int)) 3)) else (none))) r) : Ev (fun k => spec_MilliText.j0 k x0 x3) r := Ev.step (fun k => spec_MilliText.j0.eq_2 x0 x3 k) H
theorem spec_MilliText.l0.st {x3 : ByteArray} {x4 : List Int} {x5 : Int} {r : (ByteArray)} (H : Ev (fun k => if 0 ≤ (wrap64 (x5 - 1)) then (if (wrap64 (x5 - 1)) < (x4.length : Int) then (if (rd x4 (wrap64 (x5 - 1))) = 48 then (spec_MilliText.l0 k x3 x4 (wrap64 (x5 - 1))) else (if x3.size + 1 ≤ 9223372036854775807 then (if 0 ≤ x5 then (if x5 ≤ (x4.length : Int) then ((some (x4.take (x5 : Int).toNat : List Int)).bind fun y239 => (if (x3 ++ (⟨#[46]⟩ : ByteArray)).size + (strOfNums y239).size ≤ 9223372036854775807 then (some ((x3 ++ (⟨#[46]⟩ : ByteArray)) ++ (strOfNums y239))) else (none))) else (none)) else (none)) else (none))) else (none)) else (none)) r) : Ev (fun k => spec_MilliText.l0 k x3 x4 x5) r := Ev.step (fun k => spec_MilliText.l0.eq_2 x3 x4 x5 k) H

end Go.Proofs.YtapckgibbhijeaaGreatDoor.PA
