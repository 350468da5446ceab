/- Functions of the program, of the reference and of the statements: each as a plain Lean function, and a proof that the machine's call answers what that one answers. Written by a program: the kit's print, with contracts of our own for what it does not take. No condition. -/
import Derived.Test.YtapckgibbhijeaaGreatDoorPAx0
namespace Go.Proofs.YtapckgibbhijeaaGreatDoor.PA
set_option maxHeartbeats 8000000
set_option maxRecDepth 100000
open Go.RowKit Go.Proofs.YtapckgibbhijeaaGreatDoorW.PrintWords Go.Proofs.YtapckgibbhijeaaGreatDoorW.PrintLast Go.Proofs.YtapckgibbhijeaaGreatDoorW.PrintMore
attribute [local go_sem] max2_int min2_int max_two min_two max_three min_three max_four min_four   -- for this text's walks alone
set_option linter.unusedVariables false
set_option linter.unusedSimpArgs false

/-! ### laws_toRules: function 20 -/
def laws_toRules.f (a0_0 : Int) (a0_1 : Int) (a0_2 : Int) : Option (Int × Int × Int) := some (a0_0, a0_1, a0_2)
theorem laws_toRules.calls (a0_0 : Int) (a0_1 : Int) (a0_2 : Int) (r1 : Int) (r2 : Int) (r3 : Int) (w : World) (h : laws_toRules.f a0_0 a0_1 a0_2 = some (r1, r2, r3)) :
    Calls Tryz.prog 20 #[.agg #[.int .i64 a0_0, .int .i64 a0_1, .int .i64 a0_2]] w fun e w' => e = .returned (.agg #[.int .i64 r1, .int .i64 r2, .int .i64 r3]) ∧ Below w.heap.size w w' := by
 have hu23 := Tryz.underlying23
 have hu33 := Tryz.underlying33
 have HB := Pst.A (Below.refl w.heap.size w)
 have H : (some (a0_0, a0_1, a0_2)) = some (r1, r2, r3) := h
 clear h
 simp only [Option.some.injEq, Prod.mk.injEq] at H
 obtain ⟨rfl, rfl, rfl⟩ := H
 go_enter Tryz.func20, Tryz.ntmps20
 go_wp2_with (first | ((with_reducible refine gate_dst (N := 1) rfl ?_); refine Pst.bx 1 #[.int .i64 a0_0, .int .i64 a0_1, .int .i64 a0_2] 23 ?_; intro gb284 hg w2 hbox hb; have BK284 := Pst.A hbox; have GW284 := Pst.A (Pst.gs hg : w.heap.size ≤ gb284); have GE284 := Pst.A (Pst.gs hg : w.heap.size ≤ gb284); replace HB := Pst.A (below_step Pst.bel hb); clear hb hbox hg) | ((with_reducible refine gate_dst (N := 2) rfl ?_); refine Pst.bx 2 #[.int .i64 0, .int .i64 0, .int .i64 0] 33 ?_; intro gb285 hg w3 hbox hb; have BK285 := Pst.A hbox; have GW285 := Pst.A (Pst.gs hg : w.heap.size ≤ gb285); have GE285 := Pst.A (Pst.gs hg : w.heap.size ≤ gb285); have NB284_285 := Pst.A (Pst.nl BK284.out hg); have NB285_284 := Pst.A (Pst.nr BK284.out hg); replace BK284 := Pst.A (Pst.kb BK284.out hb); replace HB := Pst.A (below_step Pst.bes hb); clear hb hbox hg) | ((with_reducible refine gate_dst (N := 3) rfl ?_); refine Pst.bx 3 #[.int .i64 0, .int .i64 0, .int .i64 0] 33 ?_; intro gb286 hg w4 hbox hb; have BK286 := Pst.A hbox; have GW286 := Pst.A (Pst.gs hg : w.heap.size ≤ gb286); have GE286 := Pst.A (Pst.gs hg : w.heap.size ≤ gb286); have NB284_286 := Pst.A (Pst.nl BK284.out hg); have NB286_284 := Pst.A (Pst.nr BK284.out hg); have NB285_286 := Pst.A (Pst.nl BK285.out hg); have NB286_285 := Pst.A (Pst.nr BK285.out hg); replace BK284 := Pst.A (Pst.kb BK284.out hb); replace BK285 := Pst.A (Pst.kb BK285.out hb); replace HB := Pst.A (below_step Pst.bes hb); clear hb hbox hg; have hnb5 := NB284_285.out; have hnc5 := NB285_284.out; have hnb6 := NB284_286.out; have hnc6 := NB286_284.out; obtain ⟨_,_,_⟩ := Pst.c3 BK284.out; obtain ⟨_,_,_⟩ := Pst.f3 BK284.out; have hnb8 := NB286_285.out; have hnc8 := NB285_286.out; obtain ⟨_,_,_⟩ := Pst.c3 BK286.out; obtain ⟨_,_,_⟩ := Pst.f3 BK286.out; obtain ⟨_,_,_⟩ := Pst.c3 BK285.out; obtain ⟨_,_,_⟩ := Pst.f3 BK285.out))
 refine bodyPost_ret (results_cell_row rfl _ _ gb285 33 #[.int .i64 a0_0, .int .i64 a0_1, .int .i64 a0_2] (0, 0) _ rfl (by (with_reducible repeat (first | refine blk_drewN ?_ _ | refine blk_drew ?_ | refine blk_alloc ?_ _)); refine blk_put (cs := #[.int .i64 a0_0, .int .i64 a0_1, .int .i64 0]) ?_ 2 _ rfl; (with_reducible repeat (first | refine blk_drewN ?_ _ | refine blk_drew ?_ | refine blk_alloc ?_ _)); refine blk_put (cs := #[.int .i64 a0_0, .int .i64 0, .int .i64 0]) ?_ 1 _ rfl; (with_reducible repeat (first | refine blk_drewN ?_ _ | refine blk_drew ?_ | refine blk_alloc ?_ _)); refine blk_put (cs := #[.int .i64 0, .int .i64 0, .int .i64 0]) ?_ 0 _ rfl; (with_reducible repeat (first | refine blk_drewN ?_ _ | refine blk_drew ?_ | refine blk_alloc ?_ _)); refine blk_far ?_ NB285_286.out _; (with_reducible repeat (first | refine blk_drewN ?_ _ | refine blk_drew ?_ | refine blk_alloc ?_ _)); refine blk_far ?_ NB285_286.out _; (with_reducible repeat (first | refine blk_drewN ?_ _ | refine blk_drew ?_ | refine blk_alloc ?_ _)); refine blk_far ?_ NB285_286.out _; exact Pst.qb BK285.out) Tryz.underlying33 rfl (by kernel_rfl)) rfl ?_
 exact ⟨Pst.e1, Pst.bes⟩

/-! ### laws_toGoal: function 47 -/
def laws_toGoal.f (a0_0 : ByteArray) (a0_1 : Int) (a0_2 : Int) : Option (ByteArray × Int × Int) := some (a0_0, a0_1, a0_2)
theorem laws_toGoal.calls (a0_0 : ByteArray) (a0_1 : Int) (a0_2 : Int) (r1 : ByteArray) (r2 : Int) (r3 : Int) (w : World) (h : laws_toGoal.f a0_0 a0_1 a0_2 = some (r1, r2, r3)) :
    Calls Tryz.prog 47 #[.agg #[.string a0_0, .int .i64 a0_1, .int .i64 a0_2]] w fun e w' => e = .returned (.agg #[.string r1, .int .i64 r2, .int .i64 r3]) ∧ Below w.heap.size w w' := by
 have hu78 := Tryz.underlying78
 have hu82 := Tryz.underlying82
 have HB := Pst.A (Below.refl w.heap.size w)
 have H : (some (a0_0, a0_1, a0_2)) = some (r1, r2, r3) := h
 clear h
 simp only [Option.some.injEq, Prod.mk.injEq] at H
 obtain ⟨rfl, rfl, rfl⟩ := H
 go_enter Tryz.func47, Tryz.ntmps47
 go_wp2_with (first | ((with_reducible refine gate_dst (N := 1) rfl ?_); refine Pst.bx 1 #[.string a0_0, .int .i64 a0_1, .int .i64 a0_2] 78 ?_; intro gb287 hg w2 hbox hb; have BK287 := Pst.A hbox; have GW287 := Pst.A (Pst.gs hg : w.heap.size ≤ gb287); have GE287 := Pst.A (Pst.gs hg : w.heap.size ≤ gb287); replace HB := Pst.A (below_step Pst.bel hb); clear hb hbox hg) | ((with_reducible refine gate_dst (N := 2) rfl ?_); refine Pst.bx 2 (#[.string (⟨#[]⟩ : ByteArray), .int .i64 0, .int .i64 0]) 82 ?_; intro gb288 hg w3 hbox hb; have BK288 := Pst.A hbox; have GW288 := Pst.A (Pst.gs hg : w.heap.size ≤ gb288); have GE288 := Pst.A (Pst.gs hg : w.heap.size ≤ gb288); have NB287_288 := Pst.A (Pst.nl BK287.out hg); have NB288_287 := Pst.A (Pst.nr BK287.out hg); replace BK287 := Pst.A (Pst.kb BK287.out hb); replace HB := Pst.A (below_step Pst.bes hb); clear hb hbox hg) | ((with_reducible refine gate_dst (N := 3) rfl ?_); refine Pst.bx 3 (#[.string (⟨#[]⟩ : ByteArray), .int .i64 0, .int .i64 0]) 82 ?_; intro gb289 hg w4 hbox hb; have BK289 := Pst.A hbox; have GW289 := Pst.A (Pst.gs hg : w.heap.size ≤ gb289); have GE289 := Pst.A (Pst.gs hg : w.heap.size ≤ gb289); have NB287_289 := Pst.A (Pst.nl BK287.out hg); have NB289_287 := Pst.A (Pst.nr BK287.out hg); have NB288_289 := Pst.A (Pst.nl BK288.out hg); have NB289_288 := Pst.A (Pst.nr BK288.out hg); replace BK287 := Pst.A (Pst.kb BK287.out hb); replace BK288 := Pst.A (Pst.kb BK288.out hb); replace HB := Pst.A (below_step Pst.bes hb); clear hb hbox hg; have hnb5 := NB287_288.out; have hnc5 := NB288_287.out; have hnb6 := NB287_289.out; have hnc6 := NB289_287.out; obtain ⟨_,_,_⟩ := Pst.c3 BK287.out; obtain ⟨_,_,_⟩ := Pst.f3 BK287.out; have hnb8 := NB289_288.out; have hnc8 := NB288_289.out; obtain ⟨_,_,_⟩ := Pst.c3 BK289.out; obtain ⟨_,_,_⟩ := Pst.f3 BK289.out; obtain ⟨_,_,_⟩ := Pst.c3 BK288.out; obtain ⟨_,_,_⟩ := Pst.f3 BK288.out))
 refine bodyPost_ret (results_cell_row rfl _ _ gb288 82 #[.string a0_0, .int .i64 a0_1, .int .i64 a0_2] (0, 0) _ rfl (by (with_reducible repeat (first | refine blk_drewN ?_ _ | refine blk_drew ?_ | refine blk_alloc ?_ _)); refine blk_put (cs := #[.string a0_0, .int .i64 a0_1, .int .i64 0]) ?_ 2 _ rfl; (with_reducible repeat (first | refine blk_drewN ?_ _ | refine blk_drew ?_ | refine blk_alloc ?_ _)); refine blk_put (cs := #[.string a0_0, .int .i64 0, .int .i64 0]) ?_ 1 _ rfl; (with_reducible repeat (first | refine blk_drewN ?_ _ | refine blk_drew ?_ | refine blk_alloc ?_ _)); refine blk_put (cs := #[.string (⟨#[]⟩ : ByteArray), .int .i64 0, .int .i64 0]) ?_ 0 _ rfl; (with_reducible repeat (first | refine blk_drewN ?_ _ | refine blk_drew ?_ | refine blk_alloc ?_ _)); refine blk_far ?_ NB288_289.out _; (with_reducible repeat (first | refine blk_drewN ?_ _ | refine blk_drew ?_ | refine blk_alloc ?_ _)); refine blk_far ?_ NB288_289.out _; (with_reducible repeat (first | refine blk_drewN ?_ _ | refine blk_drew ?_ | refine blk_alloc ?_ _)); refine blk_far ?_ NB288_289.out _; exact Pst.qb BK288.out) Tryz.underlying82 rfl (by kernel_rfl)) rfl ?_
 exact ⟨Pst.e1, Pst.bes⟩

/-! ### laws_toGoalS: function 21 -/
def laws_toGoalS.l0 : Nat → List (S78) → List (S82) → Int → Option ((List (S82)))
 | 0, _, _, _ => none
 | k + 1, x0, x3, x4 => if x4 < (x0.length : Int) then (if 0 ≤ x4 then ((laws_toGoal.f ((rd_T78 x0 x4).f0) ((rd_T78 x0 x4).f1) ((rd_T78 x0 x4).f2)).bind fun bt294 => (if x4 < (x3.length : Int) then (laws_toGoalS.l0 k x0 (x3.set (x4 : Int).toNat (⟨bt294.1, bt294.2.1, bt294.2.2⟩ : S82)) (wrap64 (x4 + 1))) else (none))) else (none)) else (some x3)
def laws_toGoalS.f (k : Nat) (l0 : List (S78)) : Option ((List (S82))) := if 0 ≤ (l0.length : Int) then (if ((l0.length : Int) : Int).toNat ≤ 8796093022208 then (laws_toGoalS.l0 k l0 (List.replicate ((l0.length : Int) : Int).toNat z82) 0) else (none)) else (none)
theorem laws_toGoalS.mono_l : ∀ k, (∀ y0 y1 y2, LeO (laws_toGoalS.l0 k y0 y1 y2) (laws_toGoalS.l0 (k + 1) y0 y1 y2))
 | 0 => fun _ _ _ r h => by simp [laws_toGoalS.l0] at h
 | k + 1 => by
  have ih0 := laws_toGoalS.mono_l k
  ·intro y0 y1 y2
   unfold laws_toGoalS.l0
   exact Pst.mo
theorem laws_toGoalS.mono : ∀ a0 k, LeO (laws_toGoalS.f k a0) (laws_toGoalS.f (k + 1) a0) := by
 intro a0 k
 have ih0 := laws_toGoalS.mono_l k
 unfold laws_toGoalS.f
 exact Pst.mo
theorem laws_toGoalS.calls (k : Nat) (A0 : Option Addr) (c0 : Nat) (l0 : List (S78)) (r : List (S82)) (w : World) (hr0 : Kd.C k78 w A0 l0.length l0) (hc0 : l0.length ≤ c0) (h : laws_toGoalS.f k l0 = some r) :
    Calls Tryz.prog 21 #[.slice A0 l0.length c0] w fun e w' => ∃ v0_ : Value, e = .returned (v0_) ∧ Kd.R k82 82 w' w.heap.size (fun _ => True) v0_ r ∧ Below w.heap.size w w' := by
 have hu78 := Tryz.underlying78
 have hu82 := Tryz.underlying82
 have HR0 := Pst.A hr0
 have HC0 := Pst.A hc0
 clear hr0 hc0
 have HB := Pst.A (Below.refl w.heap.size w)
 have H : (if 0 ≤ (l0.length : Int) then (if ((l0.length : Int) : Int).toNat ≤ 8796093022208 then (laws_toGoalS.l0 k l0 (List.replicate ((l0.length : Int) : Int).toNat z82) 0) else (none)) else (none)) = some r := h
 clear h
 by_cases c2 : 0 ≤ (l0.length : Int)
 ·rw [if_pos c2] at H
  have c2b0 := eq_true c2
  have c2b1 : decide (0 ≤ (l0.length : Int)) = true := decide_eq_true c2
  clear c2
  by_cases c3 : ((l0.length : Int) : Int).toNat ≤ 8796093022208
  ·rw [if_pos c3] at H
   have c3b0 := eq_true c3
   have c3b1 : decide (((l0.length : Int) : Int).toNat ≤ 8796093022208) = true := decide_eq_true c3
   clear c3
   obtain ⟨y290, hy290⟩ : ∃ y_ : List (S82), y_ = (List.replicate ((l0.length : Int) : Int).toNat z82) := ⟨_, rfl⟩
   replace H : (laws_toGoalS.l0 k l0 y290 0) = some r := by first | (rw [hy290]; with_reducible exact H) | (have H2_ := (Option.bind_some _ _).symm.trans H; rw [hy290]; with_reducible exact H2_) | (have H2_ := (Option.bind_some _ _).symm.trans H; with_reducible exact H2_) | with_reducible exact H | (rw [hy290]; exact H) | exact H
   have Ny290 := Pst.A hy290
   clear hy290
   have H' := Pst.A H
   clear H
   go_enter Tryz.func21, Tryz.ntmps21
   go_wp2_with (first | ((with_reducible refine gate_dst (N := 7) rfl ?_); refine Kd.R_make k82 _ 82 rfl (N := 7) rfl 34 _ _ rfl (l0.length : Int) rfl rfl Tryz.underlying34 (.agg #[(.string ⟨#[]⟩), (.int .i64 0), (.int .i64 0)]) 32 info82 rfl (by decide) (by omega) z82 (ok := fun _ => True) (okp := fun _ => True) (k82_mkM _ _ _ z82 ) (fun _ hk => hk) trivial (Pst.da) (Nat.le_trans (Nat.mul_le_mul_right _ (Pst.da : (l0.length : Int).toNat ≤ 8796093022208)) (by omega)) (Below.refl _ _) (Nat.le_refl _) ?_; intro v291 w4 ho5 hb hg_ hnew_; clear hg_ hnew_; (first | rw [← Ny290.out] at ho5 | (simp only [Int.reduceToNat] at ho5; rw [← Ny290.out] at ho5)); have HO292 := Pst.A (Kd.R_lower ho5 (below_size Pst.bel)); replace HB := Pst.A (below_step Pst.bel hb); clear hb ho5))
   go_loopg [4] k (fun kq v4 w' => ∃ (x3_1 : List (S82)) (x4_1 : Int), v4 = .int .i64 x4_1 ∧ Aside0 (laws_toGoalS.l0 kq l0 x3_1 x4_1 = some r) ∧ Aside0 (kq ≤ k) ∧ Aside0 (Kd.R k82 82 w' w.heap.size (fun _ => True) v291 x3_1) ∧ Aside0 (Below w.heap.size w w'))
   case atStart => exact ⟨(y290), (0), Pst.e2, H', ⟨Nat.le_refl _⟩, ⟨by (with_reducible repeat (first | apply Kd.R_alloc | apply Kd.R_drewN | apply Kd.R_drew)); exact HO292.out⟩, ⟨Pst.bel⟩⟩
   clear H'
   try clear c2
   try clear c2b0
   try clear c2b1
   try clear p2
   try clear c3
   try clear c3b0
   try clear c3b1
   obtain ⟨x3_1, x4_1, rfl, HA, HK1, HO_3, HB⟩ := hrel
   cases gk with
   | zero => exact absurd HA.out (by simp [laws_toGoalS.l0])
   | succ k1 =>
    have H := HA.out
    clear HA
    simp only [laws_toGoalS.l0] at H
    by_cases c6 : x4_1 < (l0.length : Int)
    ·rw [if_pos c6] at H
     have c6b0 : decide (x4_1 < (l0.length : Int)) = true := decide_eq_true c6
     clear c6
     by_cases c7 : 0 ≤ x4_1
     ·rw [if_pos c7] at H
      have c7b0 : decide (0 ≤ x4_1) = true := decide_eq_true c7
      clear c7
      obtain ⟨⟨t294, t295, t296⟩, A80, H⟩ := Pst.bd H
      replace H : (if x4_1 < (x3_1.length : Int) then (laws_toGoalS.l0 k1 l0 (x3_1.set (x4_1 : Int).toNat (⟨t294, t295, t296⟩ : S82)) (wrap64 (x4_1 + 1))) else (none)) = some r := H
      have A8 := Pst.A A80
      clear A80
      by_cases c9 : x4_1 < (x3_1.length : Int)
      ·rw [if_pos c9] at H
       have c9b0 : decide (x4_1 < (x3_1.length : Int)) = true := decide_eq_true c9
       clear c9
       obtain ⟨y297, hy297⟩ : ∃ y_ : List (S82), y_ = (x3_1.set (x4_1 : Int).toNat (⟨t294, t295, t296⟩ : S82)) := ⟨_, rfl⟩
       replace H : (laws_toGoalS.l0 k1 l0 y297 (wrap64 (x4_1 + 1))) = some r := by first | (rw [hy297]; with_reducible exact H) | (have H2_ := (Option.bind_some _ _).symm.trans H; rw [hy297]; with_reducible exact H2_) | (have H2_ := (Option.bind_some _ _).symm.trans H; with_reducible exact H2_) | with_reducible exact H | (rw [hy297]; exact H) | exact H
       have Ny297 := Pst.A hy297
       clear hy297
       have H' := Pst.A H
       clear H
       have p293 : 0 ≤ (x4_1 : Int) := Pst.da
       have q293 : x4_1 < (l0.length : Int) := Pst.da
       obtain ⟨ad293, e293, hx293_0, hx293_1, hx293_2⟩ := at_T78 HR0.out x4_1 p293 q293
       cases e293
       replace hx293_0 := (HB.out.cell (World.block_lt_of_cell? w _ hx293_0)).trans hx293_0
       replace hx293_1 := (HB.out.cell (World.block_lt_of_cell? w _ hx293_1)).trans hx293_1
       replace hx293_2 := (HB.out.cell (World.block_lt_of_cell? w _ hx293_2)).trans hx293_2
       replace p293 := eq_true p293
       replace q293 := eq_true q293
       go_wp2_with (first | ((with_reducible refine gate_callee (f := 47) rfl ?_); refine goesL_ (some 20) rfl rfl Tryz.func47 (by kernel_rfl) rfl #[.agg #[.string ((rd_T78 l0 x4_1).f0), .int .i64 ((rd_T78 l0 x4_1).f1), .int .i64 ((rd_T78 l0 x4_1).f2)]] rfl Pst.ga ?_; (with_reducible refine (laws_toGoal.calls ((rd_T78 l0 x4_1).f0) ((rd_T78 l0 x4_1).f1) ((rd_T78 l0 x4_1).f2) t294 t295 t296 _ A8.out).mono ?_); rintro e w11 ⟨rfl, hb⟩; refine ⟨_, rfl, ?_⟩; replace HO_3 := Pst.A (Kd.R_below (Pst.qr HO_3.out) hb); replace HB := Pst.A (below_step Pst.bel hb); (try clear hb); (try clear hb2); (try clear hk); (try clear hi); have p10 : 0 ≤ (x4_1 : Int) := Pst.da; have q10 : (x4_1 : Int) < ((x3_1.length : Int) : Int) := Pst.da; obtain ⟨go10, co10, eo10, gb10, gl10, cl10, HG10⟩ := Kd.R_form HO_3.out (by omega); (first | cases eo10 | (injection eo10 with ea_ en_ ec_; (first | subst ea_ | (injection ea_ with ea_; subst ea_)); subst ec_; clear en_)); have GB10 := Pst.A gb10; have GG10 := Pst.A HG10; clear gb10 gl10 HG10; obtain ⟨ce10, hcl10, hM10, hcc10, hfr10⟩ := Kd.R_elem HO_3.out z82 (x4_1 : Int) p10 q10; obtain rfl := k82_openM hM10; have hx10_0 : w11.cell? ⟨go10, (x4_1 : Int).toNat * 3, none⟩ = some (.string ((rd_T82 x3_1 x4_1).f0)) := hcc10 0 _ rfl; have hx10_1 : w11.cell? ⟨go10, (x4_1 : Int).toNat * 3 + 1, none⟩ = some (.int .i64 ((rd_T82 x3_1 x4_1).f1)) := hcc10 1 _ rfl; have hx10_2 : w11.cell? ⟨go10, (x4_1 : Int).toNat * 3 + 2, none⟩ = some (.int .i64 ((rd_T82 x3_1 x4_1).f2)) := hcc10 2 _ rfl; have hf10_0 : w11.frozen? ⟨go10, (x4_1 : Int).toNat * 3, none⟩ = false := hfr10 0; have hf10_1 : w11.frozen? ⟨go10, (x4_1 : Int).toNat * 3 + 1, none⟩ = false := hfr10 1; have hf10_2 : w11.frozen? ⟨go10, (x4_1 : Int).toNat * 3 + 2, none⟩ = false := hfr10 2; clear hcl10 hcc10 hfr10 hM10; replace p10 := eq_true p10; replace q10 := eq_true q10; have HX12 := Pst.A (show Kd.R k82 82 w11 w.heap.size (fun _ => True) (.slice (some ⟨go10, 0, none⟩) x3_1.length co10) x3_1 from (Pst.qr HO_3.out)); obtain ⟨ce12, hcl12, hM12, hcc12, hfr12⟩ := Kd.R_elem HX12.out z82 (x4_1 : Int) (Pst.da) (by have h_ : (x4_1 : Int) < ((x3_1.length : Int) : Int) := Pst.da; first | exact h_ | (have e_ := (Kd.R_reads' HO_3.out).1; omega) | simpa using h_); obtain rfl := k82_openM hM12; have HP12 := Kd.R_seg HX12.out (x4_1 : Int) (Pst.da) (by have h_ : (x4_1 : Int) < ((x3_1.length : Int) : Int) := Pst.da; first | exact h_ | (have e_ := (Kd.R_reads' HO_3.out).1; omega) | simpa using h_) (seg := [.string t294, .int .i64 t295, .int .i64 t296]) (j := 0) hcl12 hcc12 (show 3 ≤ 3 from by decide) (x' := (⟨t294, t295, t296⟩ : S82)) (k82_mkM _ _ _ (⟨t294, t295, t296⟩ : S82) ) (fun _ hk => hk); have hx12_0 := hcc12 0 _ rfl; (try simp only [show (k82).sz = 3 from rfl, Nat.mul_one, Nat.add_zero] at hx12_0); have hf12_0 := hfr12 0; (try simp only [show (k82).sz = 3 from rfl, Nat.mul_one, Nat.add_zero] at hf12_0); have hx12_1 := hcc12 1 _ rfl; (try simp only [show (k82).sz = 3 from rfl, Nat.mul_one, Nat.add_zero] at hx12_1); have hf12_1 := hfr12 1; (try simp only [show (k82).sz = 3 from rfl, Nat.mul_one, Nat.add_zero] at hf12_1); have hx12_2 := hcc12 2 _ rfl; (try simp only [show (k82).sz = 3 from rfl, Nat.mul_one, Nat.add_zero] at hx12_2); have hf12_2 := hfr12 2; (try simp only [show (k82).sz = 3 from rfl, Nat.mul_one, Nat.add_zero] at hf12_2); clear hcl12 hcc12 hfr12 hM12) | ((with_reducible refine gate_store (t := 82) (p := 21) rfl ?_); refine store_event (t := 82) (p := 21) (v := ?vo_w13) (w1 := (((w11.setCell ⟨go10, (x4_1 : Int).toNat * 3, none⟩ (.string t294)).setCell ⟨go10, (x4_1 : Int).toNat * 3 + 1, none⟩ (.int .i64 t295)).setCell ⟨go10, (x4_1 : Int).toNat * 3 + 2, none⟩ (.int .i64 t296))) ?hg ?ho ?hn ?hr ?_; (case ho => rfl); (case hg => rfl); (case hn => rfl); (case hr => exact Pst.gr); intro w13 hw; have hg : w11.grownBy w13 (some go10) := (by rw [hw]; exact HP12.2); have hp_ : Kd.R k82 82 w13 w.heap.size (fun _ => True) (.slice (some ⟨go10, 0, none⟩) x3_1.length co10) y297 := (by rw [hw, Ny297.out]; exact HP12.1); clear HP12; replace HO_3 := Pst.A hp_; replace HB := Pst.A ((by rw [hw]; exact below_set (below_set (below_set (HB.out) GB10.out) GB10.out) GB10.out : Below w.heap.size w w13)); clear hg hw hp_))
       go_roundg k1
       case measure => have := HK1.out; omega
       case rel => exact ⟨(y297), (wrap64 (x4_1 + 1)), Pst.e2, H', ⟨by have := HK1.out; omega⟩, ⟨by (with_reducible repeat (first | apply Kd.R_alloc | apply Kd.R_drewN | apply Kd.R_drew)); exact HO_3.out⟩, ⟨Pst.bel⟩⟩
      ·rw [if_neg c9] at H
       exact absurd H (by simp)
     ·rw [if_neg c7] at H
      exact absurd H (by simp)
    ·rw [if_neg c6] at H
     have c6b0 : decide (x4_1 < (l0.length : Int)) = false := decide_eq_false c6
     clear c6
     obtain rfl := Option.some.inj H
     go_wp2
     go_ret
     exact ⟨_, Pst.e1, by (with_reducible repeat (first | apply Kd.R_alloc | apply Kd.R_drewN | apply Kd.R_drew)); exact HO_3.out, Pst.bel⟩
  ·rw [if_neg c3] at H
   exact absurd H (by simp)
 ·rw [if_neg c2] at H
  exact absurd H (by simp)
theorem laws_toGoalS.l0.st {x0 : List (S78)} {x3 : List (S82)} {x4 : Int} {r : ((List (S82)))} (H : Ev (fun k => if x4 < (x0.length : Int) then (if 0 ≤ x4 then ((laws_toGoal.f ((rd_T78 x0 x4).f0) ((rd_T78 x0 x4).f1) ((rd_T78 x0 x4).f2)).bind fun bt294 => (if x4 < (x3.length : Int) then (laws_toGoalS.l0 k x0 (x3.set (x4 : Int).toNat (⟨bt294.1, bt294.2.1, bt294.2.2⟩ : S82)) (wrap64 (x4 + 1))) else (none))) else (none)) else (some x3)) r) : Ev (fun k => laws_toGoalS.l0 k x0 x3 x4) r := Ev.step (fun k => laws_toGoalS.l0.eq_2 x0 x3 x4 k) H

/-! ### laws_toPolicy: function 95 -/
def laws_toPolicy.f (a0_0 : Int) (a0_1 : Int) (a0_2 : Int) : Option (Int × Int × Int) := some (a0_0, a0_1, a0_2)
theorem laws_toPolicy.calls (a0_0 : Int) (a0_1 : Int) (a0_2 : Int) (r1 : Int) (r2 : Int) (r3 : Int) (w : World) (h : laws_toPolicy.f a0_0 a0_1 a0_2 = some (r1, r2, r3)) :
    Calls Tryz.prog 95 #[.agg #[.int .i64 a0_0, .int .i64 a0_1, .int .i64 a0_2]] w fun e w' => e = .returned (.agg #[.int .i64 r1, .int .i64 r2, .int .i64 r3]) ∧ Below w.heap.size w w' := by
 have hu119 := Tryz.underlying119
 have hu102 := Tryz.underlying102
 have HB := Pst.A (Below.refl w.heap.size w)
 have H : (some (a0_0, a0_1, a0_2)) = some (r1, r2, r3) := h
 clear h
 simp only [Option.some.injEq, Prod.mk.injEq] at H
 obtain ⟨rfl, rfl, rfl⟩ := H
 go_enter Tryz.func95, Tryz.ntmps95
 go_wp2_with (first | ((with_reducible refine gate_dst (N := 1) rfl ?_); refine Pst.bx 1 #[.int .i64 a0_0, .int .i64 a0_1, .int .i64 a0_2] 119 ?_; intro gb298 hg w2 hbox hb; have BK298 := Pst.A hbox; have GW298 := Pst.A (Pst.gs hg : w.heap.size ≤ gb298); have GE298 := Pst.A (Pst.gs hg : w.heap.size ≤ gb298); replace HB := Pst.A (below_step Pst.bel hb); clear hb hbox hg) | ((with_reducible refine gate_dst (N := 2) rfl ?_); refine Pst.bx 2 #[.int .i64 0, .int .i64 0, .int .i64 0] 102 ?_; intro gb299 hg w3 hbox hb; have BK299 := Pst.A hbox; have GW299 := Pst.A (Pst.gs hg : w.heap.size ≤ gb299); have GE299 := Pst.A (Pst.gs hg : w.heap.size ≤ gb299); have NB298_299 := Pst.A (Pst.nl BK298.out hg); have NB299_298 := Pst.A (Pst.nr BK298.out hg); replace BK298 := Pst.A (Pst.kb BK298.out hb); replace HB := Pst.A (below_step Pst.bes hb); clear hb hbox hg) | ((with_reducible refine gate_dst (N := 3) rfl ?_); refine Pst.bx 3 #[.int .i64 0, .int .i64 0, .int .i64 0] 102 ?_; intro gb300 hg w4 hbox hb; have BK300 := Pst.A hbox; have GW300 := Pst.A (Pst.gs hg : w.heap.size ≤ gb300); have GE300 := Pst.A (Pst.gs hg : w.heap.size ≤ gb300); have NB298_300 := Pst.A (Pst.nl BK298.out hg); have NB300_298 := Pst.A (Pst.nr BK298.out hg); have NB299_300 := Pst.A (Pst.nl BK299.out hg); have NB300_299 := Pst.A (Pst.nr BK299.out hg); replace BK298 := Pst.A (Pst.kb BK298.out hb); replace BK299 := Pst.A (Pst.kb BK299.out hb); replace HB := Pst.A (below_step Pst.bes hb); clear hb hbox hg; have hnb5 := NB298_299.out; have hnc5 := NB299_298.out; have hnb6 := NB298_300.out; have hnc6 := NB300_298.out; obtain ⟨_,_,_⟩ := Pst.c3 BK298.out; obtain ⟨_,_,_⟩ := Pst.f3 BK298.out; have hnb8 := NB300_299.out; have hnc8 := NB299_300.out; obtain ⟨_,_,_⟩ := Pst.c3 BK300.out; obtain ⟨_,_,_⟩ := Pst.f3 BK300.out; obtain ⟨_,_,_⟩ := Pst.c3 BK299.out; obtain ⟨_,_,_⟩ := Pst.f3 BK299.out))
 refine bodyPost_ret (results_cell_row rfl _ _ gb299 102 #[.int .i64 a0_0, .int .i64 a0_1, .int .i64 a0_2] (0, 0) _ rfl (by (with_reducible repeat (first | refine blk_drewN ?_ _ | refine blk_drew ?_ | refine blk_alloc ?_ _)); refine blk_put (cs := #[.int .i64 a0_0, .int .i64 a0_1, .int .i64 0]) ?_ 2 _ rfl; (with_reducible repeat (first | refine blk_drewN ?_ _ | refine blk_drew ?_ | refine blk_alloc ?_ _)); refine blk_put (cs := #[.int .i64 a0_0, .int .i64 0, .int .i64 0]) ?_ 1 _ rfl; (with_reducible repeat (first | refine blk_drewN ?_ _ | refine blk_drew ?_ | refine blk_alloc ?_ _)); refine blk_put (cs := #[.int .i64 0, .int .i64 0, .int .i64 0]) ?_ 0 _ rfl; (with_reducible repeat (first | refine blk_drewN ?_ _ | refine blk_drew ?_ | refine blk_alloc ?_ _)); refine blk_far ?_ NB299_300.out _; (with_reducible repeat (first | refine blk_drewN ?_ _ | refine blk_drew ?_ | refine blk_alloc ?_ _)); refine blk_far ?_ NB299_300.out _; (with_reducible repeat (first | refine blk_drewN ?_ _ | refine blk_drew ?_ | refine blk_alloc ?_ _)); refine blk_far ?_ NB299_300.out _; exact Pst.qb BK299.out) Tryz.underlying102 rfl (by kernel_rfl)) rfl ?_
 exact ⟨Pst.e1, Pst.bes⟩

/-! ### laws_toPolicyS: function 72 -/
def laws_toPolicyS.l0 : Nat → List (S119) → List (S102) → Int → Option ((List (S102)))
 | 0, _, _, _ => none
 | k + 1, x0, x3, x4 => if x4 < (x0.length : Int) then (if 0 ≤ x4 then ((laws_toPolicy.f ((rd_T119 x0 x4).f0) ((rd_T119 x0 x4).f1) ((rd_T119 x0 x4).f2)).bind fun bt305 => (if x4 < (x3.length : Int) then (laws_toPolicyS.l0 k x0 (x3.set (x4 : Int).toNat (⟨bt305.1, bt305.2.1, bt305.2.2⟩ : S102)) (wrap64 (x4 + 1))) else (none))) else (none)) else (some x3)
def laws_toPolicyS.f (k : Nat) (l0 : List (S119)) : Option ((List (S102))) := if 0 ≤ (l0.length : Int) then (if ((l0.length : Int) : Int).toNat ≤ 11728124029610 then (laws_toPolicyS.l0 k l0 (List.replicate ((l0.length : Int) : Int).toNat z102) 0) else (none)) else (none)
theorem laws_toPolicyS.mono_l : ∀ k, (∀ y0 y1 y2, LeO (laws_toPolicyS.l0 k y0 y1 y2) (laws_toPolicyS.l0 (k + 1) y0 y1 y2))
 | 0 => fun _ _ _ r h => by simp [laws_toPolicyS.l0] at h
 | k + 1 => by
  have ih0 := laws_toPolicyS.mono_l k
  ·intro y0 y1 y2
   unfold laws_toPolicyS.l0
   exact Pst.mo
theorem laws_toPolicyS.mono : ∀ a0 k, LeO (laws_toPolicyS.f k a0) (laws_toPolicyS.f (k + 1) a0) := by
 intro a0 k
 have ih0 := laws_toPolicyS.mono_l k
 unfold laws_toPolicyS.f
 exact Pst.mo
theorem laws_toPolicyS.calls (k : Nat) (A0 : Option Addr) (c0 : Nat) (l0 : List (S119)) (r : List (S102)) (w : World) (hr0 : Kd.C k119 w A0 l0.length l0) (hc0 : l0.length ≤ c0) (h : laws_toPolicyS.f k l0 = some r) :
    Calls Tryz.prog 72 #[.slice A0 l0.length c0] w fun e w' => ∃ v0_ : Value, e = .returned (v0_) ∧ Kd.R k102 102 w' w.heap.size (fun _ => True) v0_ r ∧ Below w.heap.size w w' := by
 have hu119 := Tryz.underlying119
 have hu102 := Tryz.underlying102
 have HR0 := Pst.A hr0
 have HC0 := Pst.A hc0
 clear hr0 hc0
 have HB := Pst.A (Below.refl w.heap.size w)
 have H : (if 0 ≤ (l0.length : Int) then (if ((l0.length : Int) : Int).toNat ≤ 11728124029610 then (laws_toPolicyS.l0 k l0 (List.replicate ((l0.length : Int) : Int).toNat z102) 0) else (none)) else (none)) = some r := h
 clear h
 by_cases c2 : 0 ≤ (l0.length : Int)
 ·rw [if_pos c2] at H
  have c2b0 := eq_true c2
  have c2b1 : decide (0 ≤ (l0.length : Int)) = true := decide_eq_true c2
  clear c2
  by_cases c3 : ((l0.length : Int) : Int).toNat ≤ 11728124029610
  ·rw [if_pos c3] at H
   have c3b0 := eq_true c3
   have c3b1 : decide (((l0.length : Int) : Int).toNat ≤ 11728124029610) = true := decide_eq_true c3
   clear c3
   obtain ⟨y301, hy301⟩ : ∃ y_ : List (S102), y_ = (List.replicate ((l0.length : Int) : Int).toNat z102) := ⟨_, rfl⟩
   replace H : (laws_toPolicyS.l0 k l0 y301 0) = some r := by first | (rw [hy301]; with_reducible exact H) | (have H2_ := (Option.bind_some _ _).symm.trans H; rw [hy301]; with_reducible exact H2_) | (have H2_ := (Option.bind_some _ _).symm.trans H; with_reducible exact H2_) | with_reducible exact H | (rw [hy301]; exact H) | exact H
   have Ny301 := Pst.A hy301
   clear hy301
   have H' := Pst.A H
   clear H
   go_enter Tryz.func72, Tryz.ntmps72
   go_wp2_with (first | ((with_reducible refine gate_dst (N := 7) rfl ?_); refine Kd.R_make k102 _ 102 rfl (N := 7) rfl 35 _ _ rfl (l0.length : Int) rfl rfl Tryz.underlying35 (.agg #[(.int .i64 0), (.int .i64 0), (.int .i64 0)]) 24 info102 rfl (by decide) (by omega) z102 (ok := fun _ => True) (okp := fun _ => True) (k102_mkM _ _ _ z102 ) (fun _ hk => hk) trivial (Pst.da) (Nat.le_trans (Nat.mul_le_mul_right _ (Pst.da : (l0.length : Int).toNat ≤ 11728124029610)) (by omega)) (Below.refl _ _) (Nat.le_refl _) ?_; intro v302 w4 ho5 hb hg_ hnew_; clear hg_ hnew_; (first | rw [← Ny301.out] at ho5 | (simp only [Int.reduceToNat] at ho5; rw [← Ny301.out] at ho5)); have HO303 := Pst.A (Kd.R_lower ho5 (below_size Pst.bel)); replace HB := Pst.A (below_step Pst.bel hb); clear hb ho5))
   go_loopg [4] k (fun kq v4 w' => ∃ (x3_1 : List (S102)) (x4_1 : Int), v4 = .int .i64 x4_1 ∧ Aside0 (laws_toPolicyS.l0 kq l0 x3_1 x4_1 = some r) ∧ Aside0 (kq ≤ k) ∧ Aside0 (Kd.R k102 102 w' w.heap.size (fun _ => True) v302 x3_1) ∧ Aside0 (Below w.heap.size w w'))
   case atStart => exact ⟨(y301), (0), Pst.e2, H', ⟨Nat.le_refl _⟩, ⟨by (with_reducible repeat (first | apply Kd.R_alloc | apply Kd.R_drewN | apply Kd.R_drew)); exact HO303.out⟩, ⟨Pst.bel⟩⟩
   clear H'
   try clear c2
   try clear c2b0
   try clear c2b1
   try clear p2
   try clear c3
   try clear c3b0
   try clear c3b1
   obtain ⟨x3_1, x4_1, rfl, HA, HK1, HO_3, HB⟩ := hrel
   cases gk with
   | zero => exact absurd HA.out (by simp [laws_toPolicyS.l0])
   | succ k1 =>
    have H := HA.out
    clear HA
    simp only [laws_toPolicyS.l0] at H
    by_cases c6 : x4_1 < (l0.length : Int)
    ·rw [if_pos c6] at H
     have c6b0 : decide (x4_1 < (l0.length : Int)) = true := decide_eq_true c6
     clear c6
     by_cases c7 : 0 ≤ x4_1
     ·rw [if_pos c7] at H
      have c7b0 : decide (0 ≤ x4_1) = true := decide_eq_true c7
      clear c7
      obtain ⟨⟨t305, t306, t307⟩, A80, H⟩ := Pst.bd H
      replace H : (if x4_1 < (x3_1.length : Int) then (laws_toPolicyS.l0 k1 l0 (x3_1.set (x4_1 : Int).toNat (⟨t305, t306, t307⟩ : S102)) (wrap64 (x4_1 + 1))) else (none)) = some r := H
      have A8 := Pst.A A80
      clear A80
      by_cases c9 : x4_1 < (x3_1.length : Int)
      ·rw [if_pos c9] at H
       have c9b0 : decide (x4_1 < (x3_1.length : Int)) = true := decide_eq_true c9
       clear c9
       obtain ⟨y308, hy308⟩ : ∃ y_ : List (S102), y_ = (x3_1.set (x4_1 : Int).toNat (⟨t305, t306, t307⟩ : S102)) := ⟨_, rfl⟩
       replace H : (laws_toPolicyS.l0 k1 l0 y308 (wrap64 (x4_1 + 1))) = some r := by first | (rw [hy308]; with_reducible exact H) | (have H2_ := (Option.bind_some _ _).symm.trans H; rw [hy308]; with_reducible exact H2_) | (have H2_ := (Option.bind_some _ _).symm.trans H; with_reducible exact H2_) | with_reducible exact H | (rw [hy308]; exact H) | exact H
       have Ny308 := Pst.A hy308
       clear hy308
       have H' := Pst.A H
       clear H
       have p304 : 0 ≤ (x4_1 : Int) := Pst.da
       have q304 : x4_1 < (l0.length : Int) := Pst.da
       obtain ⟨ad304, e304, hx304_0, hx304_1, hx304_2⟩ := at_T119 HR0.out x4_1 p304 q304
       cases e304
       replace hx304_0 := (HB.out.cell (World.block_lt_of_cell? w _ hx304_0)).trans hx304_0
       replace hx304_1 := (HB.out.cell (World.block_lt_of_cell? w _ hx304_1)).trans hx304_1
       replace hx304_2 := (HB.out.cell (World.block_lt_of_cell? w _ hx304_2)).trans hx304_2
       replace p304 := eq_true p304
       replace q304 := eq_true q304
       go_wp2_with (first | ((with_reducible refine gate_callee (f := 95) rfl ?_); refine goesL_ (some 20) rfl rfl Tryz.func95 (by kernel_rfl) rfl #[.agg #[.int .i64 ((rd_T119 l0 x4_1).f0), .int .i64 ((rd_T119 l0 x4_1).f1), .int .i64 ((rd_T119 l0 x4_1).f2)]] rfl Pst.ga ?_; (with_reducible refine (laws_toPolicy.calls ((rd_T119 l0 x4_1).f0) ((rd_T119 l0 x4_1).f1) ((rd_T119 l0 x4_1).f2) t305 t306 t307 _ A8.out).mono ?_); rintro e w11 ⟨rfl, hb⟩; refine ⟨_, rfl, ?_⟩; replace HO_3 := Pst.A (Kd.R_below (Pst.qr HO_3.out) hb); replace HB := Pst.A (below_step Pst.bel hb); (try clear hb); (try clear hb2); (try clear hk); (try clear hi); have p10 : 0 ≤ (x4_1 : Int) := Pst.da; have q10 : (x4_1 : Int) < ((x3_1.length : Int) : Int) := Pst.da; obtain ⟨go10, co10, eo10, gb10, gl10, cl10, HG10⟩ := Kd.R_form HO_3.out (by omega); (first | cases eo10 | (injection eo10 with ea_ en_ ec_; (first | subst ea_ | (injection ea_ with ea_; subst ea_)); subst ec_; clear en_)); have GB10 := Pst.A gb10; have GG10 := Pst.A HG10; clear gb10 gl10 HG10; obtain ⟨ce10, hcl10, hM10, hcc10, hfr10⟩ := Kd.R_elem HO_3.out z102 (x4_1 : Int) p10 q10; obtain rfl := k102_openM hM10; have hx10_0 : w11.cell? ⟨go10, (x4_1 : Int).toNat * 3, none⟩ = some (.int .i64 ((rd_T102 x3_1 x4_1).f0)) := hcc10 0 _ rfl; have hx10_1 : w11.cell? ⟨go10, (x4_1 : Int).toNat * 3 + 1, none⟩ = some (.int .i64 ((rd_T102 x3_1 x4_1).f1)) := hcc10 1 _ rfl; have hx10_2 : w11.cell? ⟨go10, (x4_1 : Int).toNat * 3 + 2, none⟩ = some (.int .i64 ((rd_T102 x3_1 x4_1).f2)) := hcc10 2 _ rfl; have hf10_0 : w11.frozen? ⟨go10, (x4_1 : Int).toNat * 3, none⟩ = false := hfr10 0; have hf10_1 : w11.frozen? ⟨go10, (x4_1 : Int).toNat * 3 + 1, none⟩ = false := hfr10 1; have hf10_2 : w11.frozen? ⟨go10, (x4_1 : Int).toNat * 3 + 2, none⟩ = false := hfr10 2; clear hcl10 hcc10 hfr10 hM10; replace p10 := eq_true p10; replace q10 := eq_true q10; have HX12 := Pst.A (show Kd.R k102 102 w11 w.heap.size (fun _ => True) (.slice (some ⟨go10, 0, none⟩) x3_1.length co10) x3_1 from (Pst.qr HO_3.out)); obtain ⟨ce12, hcl12, hM12, hcc12, hfr12⟩ := Kd.R_elem HX12.out z102 (x4_1 : Int) (Pst.da) (by have h_ : (x4_1 : Int) < ((x3_1.length : Int) : Int) := Pst.da; first | exact h_ | (have e_ := (Kd.R_reads' HO_3.out).1; omega) | simpa using h_); obtain rfl := k102_openM hM12; have HP12 := Kd.R_seg HX12.out (x4_1 : Int) (Pst.da) (by have h_ : (x4_1 : Int) < ((x3_1.length : Int) : Int) := Pst.da; first | exact h_ | (have e_ := (Kd.R_reads' HO_3.out).1; omega) | simpa using h_) (seg := [.int .i64 t305, .int .i64 t306, .int .i64 t307]) (j := 0) hcl12 hcc12 (show 3 ≤ 3 from by decide) (x' := (⟨t305, t306, t307⟩ : S102)) (k102_mkM _ _ _ (⟨t305, t306, t307⟩ : S102) ) (fun _ hk => hk); have hx12_0 := hcc12 0 _ rfl; (try simp only [show (k102).sz = 3 from rfl, Nat.mul_one, Nat.add_zero] at hx12_0); have hf12_0 := hfr12 0; (try simp only [show (k102).sz = 3 from rfl, Nat.mul_one, Nat.add_zero] at hf12_0); have hx12_1 := hcc12 1 _ rfl; (try simp only [show (k102).sz = 3 from rfl, Nat.mul_one, Nat.add_zero] at hx12_1); have hf12_1 := hfr12 1; (try simp only [show (k102).sz = 3 from rfl, Nat.mul_one, Nat.add_zero] at hf12_1); have hx12_2 := hcc12 2 _ rfl; (try simp only [show (k102).sz = 3 from rfl, Nat.mul_one, Nat.add_zero] at hx12_2); have hf12_2 := hfr12 2; (try simp only [show (k102).sz = 3 from rfl, Nat.mul_one, Nat.add_zero] at hf12_2); clear hcl12 hcc12 hfr12 hM12) | ((with_reducible refine gate_store (t := 102) (p := 21) rfl ?_); refine store_event (t := 102) (p := 21) (v := ?vo_w13) (w1 := (((w11.setCell ⟨go10, (x4_1 : Int).toNat * 3, none⟩ (.int .i64 t305)).setCell ⟨go10, (x4_1 : Int).toNat * 3 + 1, none⟩ (.int .i64 t306)).setCell ⟨go10, (x4_1 : Int).toNat * 3 + 2, none⟩ (.int .i64 t307))) ?hg ?ho ?hn ?hr ?_; (case ho => rfl); (case hg => rfl); (case hn => rfl); (case hr => exact Pst.gr); intro w13 hw; have hg : w11.grownBy w13 (some go10) := (by rw [hw]; exact HP12.2); have hp_ : Kd.R k102 102 w13 w.heap.size (fun _ => True) (.slice (some ⟨go10, 0, none⟩) x3_1.length co10) y308 := (by rw [hw, Ny308.out]; exact HP12.1); clear HP12; replace HO_3 := Pst.A hp_; replace HB := Pst.A ((by rw [hw]; exact below_set (below_set (below_set (HB.out) GB10.out) GB10.out) GB10.out : Below w.heap.size w w13)); clear hg hw hp_))
       go_roundg k1
       case measure => have := HK1.out; omega
       case rel => exact ⟨(y308), (wrap64 (x4_1 + 1)), Pst.e2, H', ⟨by have := HK1.out; omega⟩, ⟨by (with_reducible repeat (first | apply Kd.R_alloc | apply Kd.R_drewN | apply Kd.R_drew)); exact HO_3.out⟩, ⟨Pst.bel⟩⟩
      ·rw [if_neg c9] at H
       exact absurd H (by simp)
     ·rw [if_neg c7] at H
      exact absurd H (by simp)
    ·rw [if_neg c6] at H
     have c6b0 : decide (x4_1 < (l0.length : Int)) = false := decide_eq_false c6
     clear c6
     obtain rfl := Option.some.inj H
     go_wp2
     go_ret
     exact ⟨_, Pst.e1, by (with_reducible repeat (first | apply Kd.R_alloc | apply Kd.R_drewN | apply Kd.R_drew)); exact HO_3.out, Pst.bel⟩
  ·rw [if_neg c3] at H
   exact absurd H (by simp)
 ·rw [if_neg c2] at H
  exact absurd H (by simp)
theorem laws_toPolicyS.l0.st {x0 : List (S119)} {x3 : List (S102)} {x4 : Int} {r : ((List (S102)))} (H : Ev (fun k => if x4 < (x0.length : Int) then (if 0 ≤ x4 then ((laws_toPolicy.f ((rd_T119 x0 x4).f0) ((rd_T119 x0 x4).f1) ((rd_T119 x0 x4).f2)).bind fun bt305 => (if x4 < (x3.length : Int) then (laws_toPolicyS.l0 k x0 (x3.set (x4 : Int).toNat (⟨bt305.1, bt305.2.1, bt305.2.2⟩ : S102)) (wrap64 (x4 + 1))) else (none))) else (none)) else (some x3)) r) : Ev (fun k => laws_toPolicyS.l0 k x0 x3 x4) r := Ev.step (fun k => laws_toPolicyS.l0.eq_2 x0 x3 x4 k) H

/-! ### laws_toSide: function 48 -/
def laws_toSide.f (k : Nat) (l0_0 : List (S119)) (a0_1 : Int) (a0_2 : Int) : Option ((List (S102)) × Int × Int) := (laws_toPolicyS.f k l0_0).bind fun t312 => (some (t312, a0_1, a0_2))
theorem laws_toSide.mono : ∀ a0 a1 a2 k, LeO (laws_toSide.f k a0 a1 a2) (laws_toSide.f (k + 1) a0 a1 a2) := by
 intro a0 a1 a2 k
 unfold laws_toSide.f
 have m0 := @laws_toPolicyS.mono
 exact Pst.mo
theorem laws_toSide.calls (k : Nat) (A0_0 : Option Addr) (c0_0 : Nat) (l0_0 : List (S119)) (a0_1 : Int) (a0_2 : Int) (r1 : List (S102)) (r2 : Int) (r3 : Int) (w : World) (hr0_0 : Kd.C k119 w A0_0 l0_0.length l0_0) (hc0_0 : l0_0.length ≤ c0_0) (h : laws_toSide.f k l0_0 a0_1 a0_2 = some (r1, r2, r3)) :
    Calls Tryz.prog 48 #[.agg #[.slice A0_0 l0_0.length c0_0, .int .i64 a0_1, .int .i64 a0_2]] w fun e w' => ∃ v0_ : Value, e = .returned (.agg #[v0_, .int .i64 r2, .int .i64 r3]) ∧ Kd.R k102 102 w' w.heap.size (fun _ => True) v0_ r1 ∧ Below w.heap.size w w' := by
 have hu27 := Tryz.underlying27
 have hu37 := Tryz.underlying37
 have HR0_0 := Pst.A hr0_0
 have HC0_0 := Pst.A hc0_0
 clear hr0_0 hc0_0
 have HB := Pst.A (Below.refl w.heap.size w)
 have H : ((laws_toPolicyS.f k l0_0).bind fun t312 => (some (t312, a0_1, a0_2))) = some (r1, r2, r3) := h
 clear h
 obtain ⟨t312, A20, H⟩ := Pst.bd H
 have A2 := Pst.A A20
 clear A20
 simp only [Option.some.injEq, Prod.mk.injEq] at H
 obtain ⟨rfl, rfl, rfl⟩ := H
 go_enter Tryz.func48, Tryz.ntmps48
 go_wp2_with (first | ((with_reducible refine gate_dst (N := 1) rfl ?_); refine Pst.bx 1 #[.slice A0_0 l0_0.length c0_0, .int .i64 a0_1, .int .i64 a0_2] 27 ?_; intro gb309 hg w3 hbox hb; have BK309 := Pst.A hbox; have GW309 := Pst.A (Pst.gs hg : w.heap.size ≤ gb309); have GE309 := Pst.A (Pst.gs hg : w.heap.size ≤ gb309); replace HB := Pst.A (below_step Pst.bel hb); clear hb hbox hg) | ((with_reducible refine gate_dst (N := 2) rfl ?_); refine Pst.bx 2 #[.slice none 0 0, .int .i64 0, .int .i64 0] 37 ?_; intro gb310 hg w4 hbox hb; have BK310 := Pst.A hbox; have GW310 := Pst.A (Pst.gs hg : w.heap.size ≤ gb310); have GE310 := Pst.A (Pst.gs hg : w.heap.size ≤ gb310); have NB309_310 := Pst.A (Pst.nl BK309.out hg); have NB310_309 := Pst.A (Pst.nr BK309.out hg); replace BK309 := Pst.A (Pst.kb BK309.out hb); replace HB := Pst.A (below_step Pst.bes hb); clear hb hbox hg) | ((with_reducible refine gate_dst (N := 3) rfl ?_); refine Pst.bx 3 #[.slice none 0 0, .int .i64 0, .int .i64 0] 37 ?_; intro gb311 hg w5 hbox hb; have BK311 := Pst.A hbox; have GW311 := Pst.A (Pst.gs hg : w.heap.size ≤ gb311); have GE311 := Pst.A (Pst.gs hg : w.heap.size ≤ gb311); have NB309_311 := Pst.A (Pst.nl BK309.out hg); have NB311_309 := Pst.A (Pst.nr BK309.out hg); have NB310_311 := Pst.A (Pst.nl BK310.out hg); have NB311_310 := Pst.A (Pst.nr BK310.out hg); replace BK309 := Pst.A (Pst.kb BK309.out hb); replace BK310 := Pst.A (Pst.kb BK310.out hb); replace HB := Pst.A (below_step Pst.bes hb); clear hb hbox hg; have hnb6 := NB309_310.out; have hnc6 := NB310_309.out; have hnb7 := NB309_311.out; have hnc7 := NB311_309.out; obtain ⟨_,_,_⟩ := Pst.c3 BK309.out; obtain ⟨_,_,_⟩ := Pst.f3 BK309.out) | ((with_reducible refine gate_callee (f := 72) rfl ?_); refine goesL_ (some 6) rfl rfl Tryz.func72 (by kernel_rfl) rfl #[.slice A0_0 l0_0.length c0_0] rfl Pst.ga ?_; (with_reducible refine (laws_toPolicyS.calls k _ _ l0_0 t312 _ ?side1 ?side2 A2.out).mono ?_); (case side1 => exact Pst.qc (Kd.C_below HR0_0.out HB.out)); (case side2 => exact HC0_0.out); rintro e w9 ⟨v313, rfl, ho0, hb⟩; refine ⟨_, rfl, ?_⟩; have HO314 := Pst.A (Kd.R_lower ho0 (below_size Pst.bes)); replace BK309 := Pst.A (Pst.kb BK309.out hb); replace BK310 := Pst.A (Pst.kb BK310.out hb); replace BK311 := Pst.A (Pst.kb BK311.out hb); replace HB := Pst.A (below_step Pst.bes hb); (try clear hb); (try clear hb2); (try clear hk); (try clear hi); (try clear ho0); obtain ⟨Ao10, co10, eo10⟩ := Kd.R_slice HO314.out; subst eo10; have hnb11 := NB311_310.out; have hnc11 := NB310_311.out; obtain ⟨_,_,_⟩ := Pst.c3 BK311.out; obtain ⟨_,_,_⟩ := Pst.f3 BK311.out; obtain ⟨_,_,_⟩ := Pst.c3 BK309.out; obtain ⟨_,_,_⟩ := Pst.f3 BK309.out; obtain ⟨_,_,_⟩ := Pst.c3 BK310.out; obtain ⟨_,_,_⟩ := Pst.f3 BK310.out))
 refine bodyPost_ret (results_cell_row rfl _ _ gb310 37 #[.slice Ao10 t312.length co10, .int .i64 a0_1, .int .i64 a0_2] (0, 0) _ rfl (by (with_reducible repeat (first | refine blk_drewN ?_ _ | refine blk_drew ?_ | refine blk_alloc ?_ _)); refine blk_put (cs := #[.slice Ao10 t312.length co10, .int .i64 a0_1, .int .i64 0]) ?_ 2 _ rfl; (with_reducible repeat (first | refine blk_drewN ?_ _ | refine blk_drew ?_ | refine blk_alloc ?_ _)); refine blk_put (cs := #[.slice Ao10 t312.length co10, .int .i64 0, .int .i64 0]) ?_ 1 _ rfl; (with_reducible repeat (first | refine blk_drewN ?_ _ | refine blk_drew ?_ | refine blk_alloc ?_ _)); refine blk_put (cs := #[.slice none 0 0, .int .i64 0, .int .i64 0]) ?_ 0 _ rfl; (with_reducible repeat (first | refine blk_drewN ?_ _ | refine blk_drew ?_ | refine blk_alloc ?_ _)); refine blk_far ?_ NB310_311.out _; (with_reducible repeat (first | refine blk_drewN ?_ _ | refine blk_drew ?_ | refine blk_alloc ?_ _)); refine blk_far ?_ NB310_311.out _; (with_reducible repeat (first | refine blk_drewN ?_ _ | refine blk_drew ?_ | refine blk_alloc ?_ _)); refine blk_far ?_ NB310_311.out _; exact Pst.qb BK310.out) Tryz.underlying37 rfl (by kernel_rfl)) rfl ?_
 exact ⟨_, Pst.e1, by (with_reducible repeat (first | apply Kd.R_alloc | apply Kd.R_drewN | apply Kd.R_drew)); exact Kd.R_mono (Kd.R_far (p := ⟨gb310, 2, none⟩) (Kd.R_far (p := ⟨gb310, 1, none⟩) (Kd.R_far (p := ⟨gb310, 0, none⟩) (Kd.R_far (p := ⟨gb311, 2, none⟩) (Kd.R_far (p := ⟨gb311, 1, none⟩) (Kd.R_far (p := ⟨gb311, 0, none⟩) (Kd.R_types (Kd.R_types HO314.out BK311.out (by decide)) BK310.out (by decide)) (fun _ hk => hk.1.2) (.slice Ao10 t312.length co10)) (fun _ hk => hk.1.2) (.int .i64 a0_1)) (fun _ hk => hk.1.2) (.int .i64 a0_2)) (fun _ hk => hk.2) (.slice Ao10 t312.length co10)) (fun _ hk => hk.2) (.int .i64 a0_1)) (fun _ hk => hk.2) (.int .i64 a0_2)) (fun _ hk => trivial), Pst.bes⟩

/-! ### laws_toBehave: function 22 -/
def laws_toBehave.f (k : Nat) (l0_0 : List (S119)) (a0_1 : Int) (a0_2 : Int) (l0_3 : List (S119)) (a0_4 : Int) (a0_5 : Int) (a0_6 : Int) (a0_7 : Int) : Option ((List (S102)) × Int × Int × (List (S102)) × Int × Int × Int × Int) := (laws_toSide.f k l0_0 a0_1 a0_2).bind fun bt318 => ((laws_toSide.f k l0_3 a0_4 a0_5).bind fun bt323 => (some (bt318.1, bt318.2.1, bt318.2.2, bt323.1, bt323.2.1, bt323.2.2, a0_6, a0_7)))
theorem laws_toBehave.mono : ∀ a0 a1 a2 a3 a4 a5 a6 a7 k, LeO (laws_toBehave.f k a0 a1 a2 a3 a4 a5 a6 a7) (laws_toBehave.f (k + 1) a0 a1 a2 a3 a4 a5 a6 a7) := by
 intro a0 a1 a2 a3 a4 a5 a6 a7 k
 unfold laws_toBehave.f
 have m0 := @laws_toSide.mono
 exact Pst.mo
theorem laws_toBehave.calls (k : Nat) (A0_0 : Option Addr) (c0_0 : Nat) (l0_0 : List (S119)) (a0_1 : Int) (a0_2 : Int) (A0_3 : Option Addr) (c0_3 : Nat) (l0_3 : List (S119)) (a0_4 : Int) (a0_5 : Int) (a0_6 : Int) (a0_7 : Int) (r1 : List (S102)) (r2 : Int) (r3 : Int) (r4 : List (S102)) (r5 : Int) (r6 : Int) (r7 : Int) (r8 : Int) (w : World) (hr0_0 : Kd.C k119 w A0_0 l0_0.length l0_0) (hc0_0 : l0_0.length ≤ c0_0) (hr0_3 : Kd.C k119 w A0_3 l0_3.length l0_3) (hc0_3 : l0_3.length ≤ c0_3) (h : laws_toBehave.f k l0_0 a0_1 a0_2 l0_3 a0_4 a0_5 a0_6 a0_7 = some (r1, r2, r3, r4, r5, r6, r7, r8)) :
 Calls Tryz.prog 22 #[.agg #[.slice A0_0 l0_0.length c0_0, .int .i64 a0_1, .int .i64 a0_2, .slice A0_3 l0_3.length c0_3, .int .i64 a0_4, .int .i64 a0_5, .int .i64 a0_6, .int .i64 a0_7]] w fun e w' => ∃ v0_ v3_ : Value, e = .returned (.agg #[v0_, .int .i64 r2, .int .i64 r3, v3_, .int .i64 r5, .int .i64 r6, .int .i64 r7, .int .i64 r8]) ∧ Kd.R k102 102 w' w.heap.size (fun k_ => some k_ ≠ (v3_ : Value).ownBlock) v0_ r1 ∧ Kd.R k102 102 w' w.heap.size (fun k_ => some k_ ≠ (v0_ : Value).ownBlock) v3_ r4 ∧ Below w.heap.size w w' := by
 have hu29 := Tryz.underlying29
 have hu39 := Tryz.underlying39
 have hu27 := Tryz.underlying27
 have hu37 := Tryz.underlying37
 have HR0_0 := Pst.A hr0_0
 have HC0_0 := Pst.A hc0_0
 clear hr0_0 hc0_0
 have HR0_3 := Pst.A hr0_3
 have HC0_3 := Pst.A hc0_3
 clear hr0_3 hc0_3
 have HB := Pst.A (Below.refl w.heap.size w)
 have H : ((laws_toSide.f k l0_0 a0_1 a0_2).bind fun bt318 => ((laws_toSide.f k l0_3 a0_4 a0_5).bind fun bt323 => (some (bt318.1, bt318.2.1, bt318.2.2, bt323.1, bt323.2.1, bt323.2.2, a0_6, a0_7)))) = some (r1, r2, r3, r4, r5, r6, r7, r8) := h
 clear h
 obtain ⟨⟨t318, t321, t322⟩, A20, H⟩ := Pst.bd H
 replace H : ((laws_toSide.f k l0_3 a0_4 a0_5).bind fun bt323 => (some (t318, t321, t322, bt323.1, bt323.2.1, bt323.2.2, a0_6, a0_7))) = some (r1, r2, r3, r4, r5, r6, r7, r8) := H
 have A2 := Pst.A A20
 clear A20
 obtain ⟨⟨t323, t326, t327⟩, A30, H⟩ := Pst.bd H
 replace H : (some (t318, t321, t322, t323, t326, t327, a0_6, a0_7)) = some (r1, r2, r3, r4, r5, r6, r7, r8) := H
 have A3 := Pst.A A30
 clear A30
 simp only [Option.some.injEq, Prod.mk.injEq] at H
 obtain ⟨rfl, rfl, rfl, rfl, rfl, rfl, rfl, rfl⟩ := H
 go_enter Tryz.func22, Tryz.ntmps22
 go_wp2_with (first | ((with_reducible refine gate_dst (N := 1) rfl ?_); refine Pst.bx 1 #[.slice A0_0 l0_0.length c0_0, .int .i64 a0_1, .int .i64 a0_2, .slice A0_3 l0_3.length c0_3, .int .i64 a0_4, .int .i64 a0_5, .int .i64 a0_6, .int .i64 a0_7] 29 ?_; intro gb315 hg w4 hbox hb; have BK315 := Pst.A hbox; have GW315 := Pst.A (Pst.gs hg : w.heap.size ≤ gb315); have GE315 := Pst.A (Pst.gs hg : w.heap.size ≤ gb315); replace HB := Pst.A (below_step Pst.bel hb); clear hb hbox hg) | ((with_reducible refine gate_dst (N := 2) rfl ?_); refine Pst.bx 2 #[.slice none 0 0, .int .i64 0, .int .i64 0, .slice none 0 0, .int .i64 0, .int .i64 0, .int .i64 0, .int .i64 0] 39 ?_; intro gb316 hg w5 hbox hb; have BK316 := Pst.A hbox; have GW316 := Pst.A (Pst.gs hg : w.heap.size ≤ gb316); have GE316 := Pst.A (Pst.gs hg : w.heap.size ≤ gb316); have NB315_316 := Pst.A (Pst.nl BK315.out hg); have NB316_315 := Pst.A (Pst.nr BK315.out hg); replace BK315 := Pst.A (Pst.kb BK315.out hb); replace HB := Pst.A (below_step Pst.bes hb); clear hb hbox hg) | ((with_reducible refine gate_dst (N := 3) rfl ?_); refine Pst.bx 3 #[.slice none 0 0, .int .i64 0, .int .i64 0, .slice none 0 0, .int .i64 0, .int .i64 0, .int .i64 0, .int .i64 0] 39 ?_; intro gb317 hg w6 hbox hb; have BK317 := Pst.A hbox; have GW317 := Pst.A (Pst.gs hg : w.heap.size ≤ gb317); have GE317 := Pst.A (Pst.gs hg : w.heap.size ≤ gb317); have NB315_317 := Pst.A (Pst.nl BK315.out hg); have NB317_315 := Pst.A (Pst.nr BK315.out hg); have NB316_317 := Pst.A (Pst.nl BK316.out hg); have NB317_316 := Pst.A (Pst.nr BK316.out hg); replace BK315 := Pst.A (Pst.kb BK315.out hb); replace BK316 := Pst.A (Pst.kb BK316.out hb); replace HB := Pst.A (below_step Pst.bes hb); clear hb hbox hg; have hnb7 := NB315_316.out; have hnc7 := NB316_315.out; have hnb8 := NB315_317.out; have hnc8 := NB317_315.out; obtain ⟨_,_,_,_,_,_,_,_⟩ := Pst.c8 BK315.out; obtain ⟨_,_,_,_,_,_,_,_⟩ := Pst.f8 BK315.out) | ((with_reducible refine gate_callee (f := 48) rfl ?_); refine goesL_ (some 6) rfl rfl Tryz.func48 (by kernel_rfl) rfl #[.agg #[.slice A0_0 l0_0.length c0_0, .int .i64 a0_1, .int .i64 a0_2]] rfl Pst.ga ?_; (with_reducible refine (laws_toSide.calls k _ _ l0_0 a0_1 a0_2 t318 t321 t322 _ ?side1 ?side2 A2.out).mono ?_); (case side1 => exact Pst.qc (Kd.C_below HR0_0.out HB.out)); (case side2 => exact HC0_0.out); rintro e w10 ⟨v319, rfl, ho0, hb⟩; refine ⟨_, rfl, ?_⟩; have HO320 := Pst.A (Kd.R_lower ho0 (below_size Pst.bes)); replace BK315 := Pst.A (Pst.kb BK315.out hb); replace BK316 := Pst.A (Pst.kb BK316.out hb); replace BK317 := Pst.A (Pst.kb BK317.out hb); replace HB := Pst.A (below_step Pst.bes hb); (try clear hb); (try clear hb2); (try clear hk); (try clear hi); (try clear ho0); obtain ⟨Ao11, co11, eo11⟩ := Kd.R_slice HO320.out; subst eo11; have hnb12 := NB317_316.out; have hnc12 := NB316_317.out; obtain ⟨_,_,_,_,_,_,_,_⟩ := Pst.c8 BK317.out; obtain ⟨_,_,_,_,_,_,_,_⟩ := Pst.f8 BK317.out; obtain ⟨_,_,_,_,_,_,_,_⟩ := Pst.c8 BK315.out; obtain ⟨_,_,_,_,_,_,_,_⟩ := Pst.f8 BK315.out) | ((with_reducible refine gate_callee (f := 48) rfl ?_); refine goesL_ (some 10) rfl rfl Tryz.func48 (by kernel_rfl) rfl #[.agg #[.slice A0_3 l0_3.length c0_3, .int .i64 a0_4, .int .i64 a0_5]] rfl Pst.ga ?_; (with_reducible refine (laws_toSide.calls k _ _ l0_3 a0_4 a0_5 t323 t326 t327 _ ?side1 ?side2 A3.out).mono ?_); (case side1 => exact Kd.C_below HR0_3.out Pst.bes); (case side2 => exact HC0_3.out); rintro e w15 ⟨v324, rfl, ho0, hb⟩; refine ⟨_, rfl, ?_⟩; have HO325 := Pst.A (Kd.R_lower (Kd.R_new' ho0 (Kd.R_lt (by (with_reducible repeat (first | apply Kd.R_alloc | apply Kd.R_drewN | apply Kd.R_drew)); exact (Kd.R_mono (Kd.R_far (p := ⟨gb317, 2, none⟩) (Kd.R_far (p := ⟨gb317, 1, none⟩) (Kd.R_far (p := ⟨gb317, 0, none⟩) (Kd.R_types HO320.out BK317.out (by decide)) (fun _ hk => hk.2) (.slice Ao11 t318.length co11)) (fun _ hk => hk.2) (.int .i64 t321)) (fun _ hk => hk.2) (.int .i64 t322)) (fun _ h_ => h_.1))))) (below_size Pst.bes)); replace HO320 := Pst.A (Kd.R_elder' (by (with_reducible repeat (first | apply Kd.R_alloc | apply Kd.R_drewN | apply Kd.R_drew)); exact (Kd.R_mono (Kd.R_far (p := ⟨gb317, 2, none⟩) (Kd.R_far (p := ⟨gb317, 1, none⟩) (Kd.R_far (p := ⟨gb317, 0, none⟩) (Kd.R_types HO320.out BK317.out (by decide)) (fun _ hk => hk.2) (.slice Ao11 t318.length co11)) (fun _ hk => hk.2) (.int .i64 t321)) (fun _ hk => hk.2) (.int .i64 t322)) (fun _ h_ => h_.1))) (Kd.R_base ho0) hb); replace BK315 := Pst.A (Pst.kf BK315.out hb); replace BK316 := Pst.A (Pst.kf BK316.out hb); replace BK317 := Pst.A (blk_below (g := gb317) (o := .cells #[.slice Ao11 t318.length co11, .int .i64 t321, .int .i64 t322, .slice none 0 0, .int .i64 0, .int .i64 0, .int .i64 0, .int .i64 0] 39 (0, 0)) (by (with_reducible repeat (first | refine blk_drewN ?_ _ | refine blk_drew ?_ | refine blk_alloc ?_ _)); refine blk_put (cs := #[.slice Ao11 t318.length co11, .int .i64 t321, .int .i64 0, .slice none 0 0, .int .i64 0, .int .i64 0, .int .i64 0, .int .i64 0]) ?_ 2 _ rfl; (with_reducible repeat (first | refine blk_drewN ?_ _ | refine blk_drew ?_ | refine blk_alloc ?_ _)); refine blk_put (cs := #[.slice Ao11 t318.length co11, .int .i64 0, .int .i64 0, .slice none 0 0, .int .i64 0, .int .i64 0, .int .i64 0, .int .i64 0]) ?_ 1 _ rfl; (with_reducible repeat (first | refine blk_drewN ?_ _ | refine blk_drew ?_ | refine blk_alloc ?_ _)); refine blk_put (cs := #[.slice none 0 0, .int .i64 0, .int .i64 0, .slice none 0 0, .int .i64 0, .int .i64 0, .int .i64 0, .int .i64 0]) ?_ 0 _ rfl; exact Pst.qb BK317.out) hb); replace HB := Pst.A (below_step Pst.bes hb); (try clear hb); (try clear hb2); (try clear hk); (try clear hi); (try clear ho0); obtain ⟨Ao16, co16, eo16⟩ := Kd.R_slice HO325.out; subst eo16; obtain ⟨_,_,_,_,_,_,_,_⟩ := Pst.c8 BK317.out; obtain ⟨_,_,_,_,_,_,_,_⟩ := Pst.f8 BK317.out; obtain ⟨_,_,_,_,_,_,_,_⟩ := Pst.c8 BK315.out; obtain ⟨_,_,_,_,_,_,_,_⟩ := Pst.f8 BK315.out; obtain ⟨_,_,_,_,_,_,_,_⟩ := Pst.c8 BK316.out; obtain ⟨_,_,_,_,_,_,_,_⟩ := Pst.f8 BK316.out))
 refine bodyPost_ret (results_cell_row rfl _ _ gb316 39 #[.slice Ao11 t318.length co11, .int .i64 t321, .int .i64 t322, .slice Ao16 t323.length co16, .int .i64 t326, .int .i64 t327, .int .i64 a0_6, .int .i64 a0_7] (0, 0) _ rfl (by (with_reducible repeat (first | refine blk_drewN ?_ _ | refine blk_drew ?_ | refine blk_alloc ?_ _)); refine blk_put (cs := #[.slice Ao11 t318.length co11, .int .i64 t321, .int .i64 t322, .slice Ao16 t323.length co16, .int .i64 t326, .int .i64 t327, .int .i64 a0_6, .int .i64 0]) ?_ 7 _ rfl; (with_reducible repeat (first | refine blk_drewN ?_ _ | refine blk_drew ?_ | refine blk_alloc ?_ _)); refine blk_put (cs := #[.slice Ao11 t318.length co11, .int .i64 t321, .int .i64 t322, .slice Ao16 t323.length co16, .int .i64 t326, .int .i64 t327, .int .i64 0, .int .i64 0]) ?_ 6 _ rfl; (with_reducible repeat (first | refine blk_drewN ?_ _ | refine blk_drew ?_ | refine blk_alloc ?_ _)); refine blk_put (cs := #[.slice Ao11 t318.length co11, .int .i64 t321, .int .i64 t322, .slice Ao16 t323.length co16, .int .i64 t326, .int .i64 0, .int .i64 0, .int .i64 0]) ?_ 5 _ rfl; (with_reducible repeat (first | refine blk_drewN ?_ _ | refine blk_drew ?_ | refine blk_alloc ?_ _)); refine blk_put (cs := #[.slice Ao11 t318.length co11, .int .i64 t321, .int .i64 t322, .slice Ao16 t323.length co16, .int .i64 0, .int .i64 0, .int .i64 0, .int .i64 0]) ?_ 4 _ rfl; (with_reducible repeat (first | refine blk_drewN ?_ _ | refine blk_drew ?_ | refine blk_alloc ?_ _)); refine blk_put (cs := #[.slice Ao11 t318.length co11, .int .i64 t321, .int .i64 t322, .slice none 0 0, .int .i64 0, .int .i64 0, .int .i64 0, .int .i64 0]) ?_ 3 _ rfl; (with_reducible repeat (first | refine blk_drewN ?_ _ | refine blk_drew ?_ | refine blk_alloc ?_ _)); refine blk_put (cs := #[.slice Ao11 t318.length co11, .int .i64 t321, .int .i64 0, .slice none 0 0, .int .i64 0, .int .i64 0, .int .i64 0, .int .i64 0]) ?_ 2 _ rfl; (with_reducible repeat (first | refine blk_drewN ?_ _ | refine blk_drew ?_ | refine blk_alloc ?_ _)); refine blk_put (cs := #[.slice Ao11 t318.length co11, .int .i64 0, .int .i64 0, .slice none 0 0, .int .i64 0, .int .i64 0, .int .i64 0, .int .i64 0]) ?_ 1 _ rfl; (with_reducible repeat (first | refine blk_drewN ?_ _ | refine blk_drew ?_ | refine blk_alloc ?_ _)); refine blk_put (cs := #[.slice none 0 0, .int .i64 0, .int .i64 0, .slice none 0 0, .int .i64 0, .int .i64 0, .int .i64 0, .int .i64 0]) ?_ 0 _ rfl; (with_reducible repeat (first | refine blk_drewN ?_ _ | refine blk_drew ?_ | refine blk_alloc ?_ _)); refine blk_far ?_ NB316_317.out _; (with_reducible repeat (first | refine blk_drewN ?_ _ | refine blk_drew ?_ | refine blk_alloc ?_ _)); refine blk_far ?_ NB316_317.out _; (with_reducible repeat (first | refine blk_drewN ?_ _ | refine blk_drew ?_ | refine blk_alloc ?_ _)); refine blk_far ?_ NB316_317.out _; (with_reducible repeat (first | refine blk_drewN ?_ _ | refine blk_drew ?_ | refine blk_alloc ?_ _)); refine blk_far ?_ NB316_317.out _; (with_reducible repeat (first | refine blk_drewN ?_ _ | refine blk_drew ?_ | refine blk_alloc ?_ _)); refine blk_far ?_ NB316_317.out _; exact Pst.qb BK316.out) Tryz.underlying39 rfl (by kernel_rfl)) rfl ?_
 exact ⟨_, _, Pst.e1, by (with_reducible repeat (first | apply Kd.R_alloc | apply Kd.R_drewN | apply Kd.R_drew)); exact Kd.R_mono (Kd.R_far (p := ⟨gb316, 7, none⟩) (Kd.R_far (p := ⟨gb316, 6, none⟩) (Kd.R_far (p := ⟨gb316, 5, none⟩) (Kd.R_far (p := ⟨gb316, 4, none⟩) (Kd.R_far (p := ⟨gb316, 3, none⟩) (Kd.R_far (p := ⟨gb316, 2, none⟩) (Kd.R_far (p := ⟨gb316, 1, none⟩) (Kd.R_far (p := ⟨gb316, 0, none⟩) (Kd.R_far (p := ⟨gb317, 7, none⟩) (Kd.R_far (p := ⟨gb317, 6, none⟩) (Kd.R_far (p := ⟨gb317, 5, none⟩) (Kd.R_far (p := ⟨gb317, 4, none⟩) (Kd.R_far (p := ⟨gb317, 3, none⟩) (Kd.R_types (Kd.R_types HO320.out BK317.out (by decide)) BK316.out (by decide)) (fun _ hk => hk.1.2) (.slice Ao16 t323.length co16)) (fun _ hk => hk.1.2) (.int .i64 t326)) (fun _ hk => hk.1.2) (.int .i64 t327)) (fun _ hk => hk.1.2) (.int .i64 a0_6)) (fun _ hk => hk.1.2) (.int .i64 a0_7)) (fun _ hk => hk.2) (.slice Ao11 t318.length co11)) (fun _ hk => hk.2) (.int .i64 t321)) (fun _ hk => hk.2) (.int .i64 t322)) (fun _ hk => hk.2) (.slice Ao16 t323.length co16)) (fun _ hk => hk.2) (.int .i64 t326)) (fun _ hk => hk.2) (.int .i64 t327)) (fun _ hk => hk.2) (.int .i64 a0_6)) (fun _ hk => hk.2) (.int .i64 a0_7)) (fun _ hk => hk.1.1.2), by (with_reducible repeat (first | apply Kd.R_alloc | apply Kd.R_drewN | apply Kd.R_drew)); exact Kd.R_mono (Kd.R_far (p := ⟨gb316, 7, none⟩) (Kd.R_far (p := ⟨gb316, 6, none⟩) (Kd.R_far (p := ⟨gb316, 5, none⟩) (Kd.R_far (p := ⟨gb316, 4, none⟩) (Kd.R_far (p := ⟨gb316, 3, none⟩) (Kd.R_far (p := ⟨gb316, 2, none⟩) (Kd.R_far (p := ⟨gb316, 1, none⟩) (Kd.R_far (p := ⟨gb316, 0, none⟩) (Kd.R_far (p := ⟨gb317, 7, none⟩) (Kd.R_far (p := ⟨gb317, 6, none⟩) (Kd.R_far (p := ⟨gb317, 5, none⟩) (Kd.R_far (p := ⟨gb317, 4, none⟩) (Kd.R_far (p := ⟨gb317, 3, none⟩) (Kd.R_types (Kd.R_types HO325.out BK317.out (by decide)) BK316.out (by decide)) (fun _ hk => hk.1.2) (.slice Ao16 t323.length co16)) (fun _ hk => hk.1.2) (.int .i64 t326)) (fun _ hk => hk.1.2) (.int .i64 t327)) (fun _ hk => hk.1.2) (.int .i64 a0_6)) (fun _ hk => hk.1.2) (.int .i64 a0_7)) (fun _ hk => hk.2) (.slice Ao11 t318.length co11)) (fun _ hk => hk.2) (.int .i64 t321)) (fun _ hk => hk.2) (.int .i64 t322)) (fun _ hk => hk.2) (.slice Ao16 t323.length co16)) (fun _ hk => hk.2) (.int .i64 t326)) (fun _ hk => hk.2) (.int .i64 t327)) (fun _ hk => hk.2) (.int .i64 a0_6)) (fun _ hk => hk.2) (.int .i64 a0_7)) (fun _ hk => hk.1.1.2), Pst.bes⟩

/-! ### laws_toSetup: function 6 -/
def laws_toSetup.f (k : Nat) (a0_0 : Int) (a0_1 : Int) (a0_2 : Int) (l0_3 : List (S78)) (l0_4 : List (S119)) (a0_5 : Int) (a0_6 : Int) (l0_7 : List (S119)) (a0_8 : Int) (a0_9 : Int) (a0_10 : Int) (a0_11 : Int) : Option (Int × Int × Int × (List (S82)) × (List (S102)) × Int × Int × (List (S102)) × Int × Int × Int × Int) := (laws_toRules.f a0_0 a0_1 a0_2).bind fun bt331 => ((laws_toGoalS.f k l0_3).bind fun t334 => ((laws_toBehave.f k l0_4 a0_5 a0_6 l0_7 a0_8 a0_9 a0_10 a0_11).bind fun bt337 => (some (bt331.1, bt331.2.1, bt331.2.2, t334, bt337.1, bt337.2.1, bt337.2.2.1, bt337.2.2.2.1, bt337.2.2.2.2.1, bt337.2.2.2.2.2.1, bt337.2.2.2.2.2.2.1, bt337.2.2.2.2.2.2.2))))
theorem laws_toSetup.mono : ∀ a0 a1 a2 a3 a4 a5 a6 a7 a8 a9 a10 a11 k, LeO (laws_toSetup.f k a0 a1 a2 a3 a4 a5 a6 a7 a8 a9 a10 a11) (laws_toSetup.f (k + 1) a0 a1 a2 a3 a4 a5 a6 a7 a8 a9 a10 a11) := by
 intro a0 a1 a2 a3 a4 a5 a6 a7 a8 a9 a10 a11 k
 unfold laws_toSetup.f
 have m0 := @laws_toBehave.mono
 have m1 := @laws_toGoalS.mono
 exact Pst.mo
theorem laws_toSetup.calls (k : Nat) (a0_0 : Int) (a0_1 : Int) (a0_2 : Int) (A0_3 : Option Addr) (c0_3 : Nat) (l0_3 : List (S78)) (A0_4 : Option Addr) (c0_4 : Nat) (l0_4 : List (S119)) (a0_5 : Int) (a0_6 : Int) (A0_7 : Option Addr) (c0_7 : Nat) (l0_7 : List (S119)) (a0_8 : Int) (a0_9 : Int) (a0_10 : Int) (a0_11 : Int) (r1 : Int) (r2 : Int) (r3 : Int) (r4 : List (S82)) (r5 : List (S102)) (r6 : Int) (r7 : Int) (r8 : List (S102)) (r9 : Int) (r10 : Int) (r11 : Int) (r12 : Int) (w : World) (hr0_3 : Kd.C k78 w A0_3 l0_3.length l0_3) (hc0_3 : l0_3.length ≤ c0_3) (hr0_4 : Kd.C k119 w A0_4 l0_4.length l0_4) (hc0_4 : l0_4.length ≤ c0_4) (hr0_7 : Kd.C k119 w A0_7 l0_7.length l0_7) (hc0_7 : l0_7.length ≤ c0_7) (h : laws_toSetup.f k a0_0 a0_1 a0_2 l0_3 l0_4 a0_5 a0_6 l0_7 a0_8 a0_9 a0_10 a0_11 = some (r1, r2, r3, r4, r5, r6, r7, r8, r9, r10, r11, r12)) :
 Calls Tryz.prog 6 #[.agg #[.int .i64 a0_0, .int .i64 a0_1, .int .i64 a0_2, .slice A0_3 l0_3.length c0_3, .slice A0_4 l0_4.length c0_4, .int .i64 a0_5, .int .i64 a0_6, .slice A0_7 l0_7.length c0_7, .int .i64 a0_8, .int .i64 a0_9, .int .i64 a0_10, .int .i64 a0_11]] w fun e w' => ∃ v3_ v4_ v7_ : Value, e = .returned (.agg #[.int .i64 r1, .int .i64 r2, .int .i64 r3, v3_, v4_, .int .i64 r6, .int .i64 r7, v7_, .int .i64 r9, .int .i64 r10, .int .i64 r11, .int .i64 r12]) ∧ Kd.R k82 82 w' w.heap.size (fun _ => True) v3_ r4 ∧ Kd.R k102 102 w' w.heap.size (fun k_ => some k_ ≠ (v7_ : Value).ownBlock) v4_ r5 ∧ Kd.R k102 102 w' w.heap.size (fun k_ => some k_ ≠ (v4_ : Value).ownBlock) v7_ r8 ∧ Below w.heap.size w w' := by
 have hu31 := Tryz.underlying31
 have hu41 := Tryz.underlying41
 have hu23 := Tryz.underlying23
 have hu33 := Tryz.underlying33
 have hu29 := Tryz.underlying29
 have hu39 := Tryz.underlying39
 have HR0_3 := Pst.A hr0_3
 have HC0_3 := Pst.A hc0_3
 clear hr0_3 hc0_3
 have HR0_4 := Pst.A hr0_4
 have HC0_4 := Pst.A hc0_4
 clear hr0_4 hc0_4
 have HR0_7 := Pst.A hr0_7
 have HC0_7 := Pst.A hc0_7
 clear hr0_7 hc0_7
 have HB := Pst.A (Below.refl w.heap.size w)
 have H : ((laws_toRules.f a0_0 a0_1 a0_2).bind fun bt331 => ((laws_toGoalS.f k l0_3).bind fun t334 => ((laws_toBehave.f k l0_4 a0_5 a0_6 l0_7 a0_8 a0_9 a0_10 a0_11).bind fun bt337 => (some (bt331.1, bt331.2.1, bt331.2.2, t334, bt337.1, bt337.2.1, bt337.2.2.1, bt337.2.2.2.1, bt337.2.2.2.2.1, bt337.2.2.2.2.2.1, bt337.2.2.2.2.2.2.1, bt337.2.2.2.2.2.2.2))))) = some (r1, r2, r3, r4, r5, r6, r7, r8, r9, r10, r11, r12) := h
 clear h
 obtain ⟨⟨t331, t332, t333⟩, A20, H⟩ := Pst.bd H
 replace H : ((laws_toGoalS.f k l0_3).bind fun t334 => ((laws_toBehave.f k l0_4 a0_5 a0_6 l0_7 a0_8 a0_9 a0_10 a0_11).bind fun bt337 => (some (t331, t332, t333, t334, bt337.1, bt337.2.1, bt337.2.2.1, bt337.2.2.2.1, bt337.2.2.2.2.1, bt337.2.2.2.2.2.1, bt337.2.2.2.2.2.2.1, bt337.2.2.2.2.2.2.2)))) = some (r1, r2, r3, r4, r5, r6, r7, r8, r9, r10, r11, r12) := H
 have A2 := Pst.A A20
 clear A20
 obtain ⟨t334, A30, H⟩ := Pst.bd H
 have A3 := Pst.A A30
 clear A30
 obtain ⟨⟨t337, t340, t341, t342, t345, t346, t347, t348⟩, A40, H⟩ := Pst.bd H
 replace H : (some (t331, t332, t333, t334, t337, t340, t341, t342, t345, t346, t347, t348)) = some (r1, r2, r3, r4, r5, r6, r7, r8, r9, r10, r11, r12) := H
 have A4 := Pst.A A40
 clear A40
 simp only [Option.some.injEq, Prod.mk.injEq] at H
 obtain ⟨rfl, rfl, rfl, rfl, rfl, rfl, rfl, rfl, rfl, rfl, rfl, rfl⟩ := H
 go_enter Tryz.func6, Tryz.ntmps6
 go_wp2_with (first | ((with_reducible refine gate_dst (N := 1) rfl ?_); refine Pst.bx 1 #[.int .i64 a0_0, .int .i64 a0_1, .int .i64 a0_2, .slice A0_3 l0_3.length c0_3, .slice A0_4 l0_4.length c0_4, .int .i64 a0_5, .int .i64 a0_6, .slice A0_7 l0_7.length c0_7, .int .i64 a0_8, .int .i64 a0_9, .int .i64 a0_10, .int .i64 a0_11] 31 ?_; intro gb328 hg w5 hbox hb; have BK328 := Pst.A hbox; have GW328 := Pst.A (Pst.gs hg : w.heap.size ≤ gb328); have GE328 := Pst.A (Pst.gs hg : w.heap.size ≤ gb328); replace HB := Pst.A (below_step Pst.bel hb); clear hb hbox hg) | ((with_reducible refine gate_dst (N := 2) rfl ?_); refine Pst.bx 2 #[.int .i64 0, .int .i64 0, .int .i64 0, .slice none 0 0, .slice none 0 0, .int .i64 0, .int .i64 0, .slice none 0 0, .int .i64 0, .int .i64 0, .int .i64 0, .int .i64 0] 41 ?_; intro gb329 hg w6 hbox hb; have BK329 := Pst.A hbox; have GW329 := Pst.A (Pst.gs hg : w.heap.size ≤ gb329); have GE329 := Pst.A (Pst.gs hg : w.heap.size ≤ gb329); have NB328_329 := Pst.A (Pst.nl BK328.out hg); have NB329_328 := Pst.A (Pst.nr BK328.out hg); replace BK328 := Pst.A (Pst.kb BK328.out hb); replace HB := Pst.A (below_step Pst.bes hb); clear hb hbox hg) | ((with_reducible refine gate_dst (N := 3) rfl ?_); refine Pst.bx 3 #[.int .i64 0, .int .i64 0, .int .i64 0, .slice none 0 0, .slice none 0 0, .int .i64 0, .int .i64 0, .slice none 0 0, .int .i64 0, .int .i64 0, .int .i64 0, .int .i64 0] 41 ?_; intro gb330 hg w7 hbox hb; have BK330 := Pst.A hbox; have GW330 := Pst.A (Pst.gs hg : w.heap.size ≤ gb330); have GE330 := Pst.A (Pst.gs hg : w.heap.size ≤ gb330); have NB328_330 := Pst.A (Pst.nl BK328.out hg); have NB330_328 := Pst.A (Pst.nr BK328.out hg); have NB329_330 := Pst.A (Pst.nl BK329.out hg); have NB330_329 := Pst.A (Pst.nr BK329.out hg); replace BK328 := Pst.A (Pst.kb BK328.out hb); replace BK329 := Pst.A (Pst.kb BK329.out hb); replace HB := Pst.A (below_step Pst.bes hb); clear hb hbox hg; have hnb8 := NB328_329.out; have hnc8 := NB329_328.out; have hnb9 := NB328_330.out; have hnc9 := NB330_328.out; obtain ⟨_,_,_,_,_,_,_,_,_,_,_,_⟩ := Pst.c12 BK328.out; obtain ⟨_,_,_,_,_,_,_,_,_,_,_,_⟩ := Pst.f12 BK328.out) | ((with_reducible refine gate_callee (f := 20) rfl ?_); refine goesL_ (some 6) rfl rfl Tryz.func20 (by kernel_rfl) rfl #[.agg #[.int .i64 a0_0, .int .i64 a0_1, .int .i64 a0_2]] rfl Pst.ga ?_; (with_reducible refine (laws_toRules.calls a0_0 a0_1 a0_2 t331 t332 t333 _ A2.out).mono ?_); rintro e w11 ⟨rfl, hb⟩; refine ⟨_, rfl, ?_⟩; replace BK328 := Pst.A (Pst.kb BK328.out hb); replace BK329 := Pst.A (Pst.kb BK329.out hb); replace BK330 := Pst.A (Pst.kb BK330.out hb); replace HB := Pst.A (below_step Pst.bes hb); (try clear hb); (try clear hb2); (try clear hk); (try clear hi); have hnb12 := NB330_329.out; have hnc12 := NB329_330.out; obtain ⟨_,_,_,_,_,_,_,_,_,_,_,_⟩ := Pst.c12 BK330.out; obtain ⟨_,_,_,_,_,_,_,_,_,_,_,_⟩ := Pst.f12 BK330.out; obtain ⟨_,_,_,_,_,_,_,_,_,_,_,_⟩ := Pst.c12 BK328.out; obtain ⟨_,_,_,_,_,_,_,_,_,_,_,_⟩ := Pst.f12 BK328.out) | ((with_reducible refine gate_callee (f := 21) rfl ?_); refine goesL_ (some 10) rfl rfl Tryz.func21 (by kernel_rfl) rfl #[.slice A0_3 l0_3.length c0_3] rfl Pst.ga ?_; (with_reducible refine (laws_toGoalS.calls k _ _ l0_3 t334 _ ?side1 ?side2 A3.out).mono ?_); (case side1 => exact Kd.C_below HR0_3.out Pst.bes); (case side2 => exact HC0_3.out); rintro e w15 ⟨v335, rfl, ho0, hb⟩; refine ⟨_, rfl, ?_⟩; have HO336 := Pst.A (Kd.R_lower ho0 (below_size Pst.bes)); replace BK328 := Pst.A (Pst.kf BK328.out hb); replace BK329 := Pst.A (Pst.kf BK329.out hb); replace BK330 := Pst.A (blk_below (g := gb330) (o := .cells #[.int .i64 t331, .int .i64 t332, .int .i64 t333, .slice none 0 0, .slice none 0 0, .int .i64 0, .int .i64 0, .slice none 0 0, .int .i64 0, .int .i64 0, .int .i64 0, .int .i64 0] 41 (0, 0)) (by (with_reducible repeat (first | refine blk_drewN ?_ _ | refine blk_drew ?_ | refine blk_alloc ?_ _)); refine blk_put (cs := #[.int .i64 t331, .int .i64 t332, .int .i64 0, .slice none 0 0, .slice none 0 0, .int .i64 0, .int .i64 0, .slice none 0 0, .int .i64 0, .int .i64 0, .int .i64 0, .int .i64 0]) ?_ 2 _ rfl; (with_reducible repeat (first | refine blk_drewN ?_ _ | refine blk_drew ?_ | refine blk_alloc ?_ _)); refine blk_put (cs := #[.int .i64 t331, .int .i64 0, .int .i64 0, .slice none 0 0, .slice none 0 0, .int .i64 0, .int .i64 0, .slice none 0 0, .int .i64 0, .int .i64 0, .int .i64 0, .int .i64 0]) ?_ 1 _ rfl; (with_reducible repeat (first | refine blk_drewN ?_ _ | refine blk_drew ?_ | refine blk_alloc ?_ _)); refine blk_put (cs := #[.int .i64 0, .int .i64 0, .int .i64 0, .slice none 0 0, .slice none 0 0, .int .i64 0, .int .i64 0, .slice none 0 0, .int .i64 0, .int .i64 0, .int .i64 0, .int .i64 0]) ?_ 0 _ rfl; exact Pst.qb BK330.out) hb); replace HB := Pst.A (below_step Pst.bes hb); (try clear hb); (try clear hb2); (try clear hk); (try clear hi); (try clear ho0); obtain ⟨Ao16, co16, eo16⟩ := Kd.R_slice HO336.out; subst eo16; obtain ⟨_,_,_,_,_,_,_,_,_,_,_,_⟩ := Pst.c12 BK330.out; obtain ⟨_,_,_,_,_,_,_,_,_,_,_,_⟩ := Pst.f12 BK330.out; obtain ⟨_,_,_,_,_,_,_,_,_,_,_,_⟩ := Pst.c12 BK328.out; obtain ⟨_,_,_,_,_,_,_,_,_,_,_,_⟩ := Pst.f12 BK328.out) | ((with_reducible refine gate_callee (f := 22) rfl ?_); refine goesL_ (some 14) rfl rfl Tryz.func22 (by kernel_rfl) rfl #[.agg #[.slice A0_4 l0_4.length c0_4, .int .i64 a0_5, .int .i64 a0_6, .slice A0_7 l0_7.length c0_7, .int .i64 a0_8, .int .i64 a0_9, .int .i64 a0_10, .int .i64 a0_11]] rfl Pst.ga ?_; (with_reducible refine (laws_toBehave.calls k _ _ l0_4 a0_5 a0_6 _ _ l0_7 a0_8 a0_9 a0_10 a0_11 t337 t340 t341 t342 t345 t346 t347 t348 _ ?side1 ?side2 ?side3 ?side4 A4.out).mono ?_); (case side1 => exact Kd.C_below HR0_4.out Pst.bes); (case side2 => exact HC0_4.out); (case side3 => exact Kd.C_below HR0_7.out Pst.bes); (case side4 => exact HC0_7.out); rintro e w19 ⟨v338, v343, rfl, ho0, ho1, hb⟩; refine ⟨_, rfl, ?_⟩; have HO339 := Pst.A (Kd.R_lower ho0 (below_size Pst.bes)); have HO344 := Pst.A (Kd.R_lower ho1 (below_size Pst.bes)); replace HO336 := Pst.A (Kd.R_below (by (with_reducible repeat (first | apply Kd.R_alloc | apply Kd.R_drewN | apply Kd.R_drew)); exact (Kd.R_mono (Kd.R_far (p := ⟨gb330, 3, none⟩) (Kd.R_types HO336.out BK330.out (by decide)) (fun _ hk => hk.2) (.slice Ao16 t334.length co16)) (fun _ h_ => h_.1))) hb); replace BK328 := Pst.A (Pst.kf BK328.out hb); replace BK329 := Pst.A (Pst.kf BK329.out hb); replace BK330 := Pst.A (blk_below (g := gb330) (o := .cells #[.int .i64 t331, .int .i64 t332, .int .i64 t333, .slice Ao16 t334.length co16, .slice none 0 0, .int .i64 0, .int .i64 0, .slice none 0 0, .int .i64 0, .int .i64 0, .int .i64 0, .int .i64 0] 41 (0, 0)) (by (with_reducible repeat (first | refine blk_drewN ?_ _ | refine blk_drew ?_ | refine blk_alloc ?_ _)); refine blk_put (cs := #[.int .i64 t331, .int .i64 t332, .int .i64 t333, .slice none 0 0, .slice none 0 0, .int .i64 0, .int .i64 0, .slice none 0 0, .int .i64 0, .int .i64 0, .int .i64 0, .int .i64 0]) ?_ 3 _ rfl; exact Pst.qb BK330.out) hb); replace HB := Pst.A (below_step Pst.bes hb); (try clear hb); (try clear hb2); (try clear hk); (try clear hi); (try clear ho0); (try clear ho1); obtain ⟨Ao20, co20, eo20⟩ := Kd.R_slice HO339.out; subst eo20; obtain ⟨_,_,_,_,_,_,_,_,_,_,_,_⟩ := Pst.c12 BK330.out; obtain ⟨_,_,_,_,_,_,_,_,_,_,_,_⟩ := Pst.f12 BK330.out; obtain ⟨Ao22, co22, eo22⟩ := Kd.R_slice HO344.out; subst eo22; obtain ⟨_,_,_,_,_,_,_,_,_,_,_,_⟩ := Pst.c12 BK329.out; obtain ⟨_,_,_,_,_,_,_,_,_,_,_,_⟩ := Pst.f12 BK329.out))
 refine bodyPost_ret (results_cell_row rfl _ _ gb329 41 #[.int .i64 t331, .int .i64 t332, .int .i64 t333, .slice Ao16 t334.length co16, .slice Ao20 t337.length co20, .int .i64 t340, .int .i64 t341, .slice Ao22 t342.length co22, .int .i64 t345, .int .i64 t346, .int .i64 t347, .int .i64 t348] (0, 0) _ rfl (by (with_reducible repeat (first | refine blk_drewN ?_ _ | refine blk_drew ?_ | refine blk_alloc ?_ _)); refine blk_put (cs := #[.int .i64 t331, .int .i64 t332, .int .i64 t333, .slice Ao16 t334.length co16, .slice Ao20 t337.length co20, .int .i64 t340, .int .i64 t341, .slice Ao22 t342.length co22, .int .i64 t345, .int .i64 t346, .int .i64 t347, .int .i64 0]) ?_ 11 _ rfl; (with_reducible repeat (first | refine blk_drewN ?_ _ | refine blk_drew ?_ | refine blk_alloc ?_ _)); refine blk_put (cs := #[.int .i64 t331, .int .i64 t332, .int .i64 t333, .slice Ao16 t334.length co16, .slice Ao20 t337.length co20, .int .i64 t340, .int .i64 t341, .slice Ao22 t342.length co22, .int .i64 t345, .int .i64 t346, .int .i64 0, .int .i64 0]) ?_ 10 _ rfl; (with_reducible repeat (first | refine blk_drewN ?_ _ | refine blk_drew ?_ | refine blk_alloc ?_ _)); refine blk_put (cs := #[.int .i64 t331, .int .i64 t332, .int .i64 t333, .slice Ao16 t334.length co16, .slice Ao20 t337.length co20, .int .i64 t340, .int .i64 t341, .slice Ao22 t342.length co22, .int .i64 t345, .int .i64 0, .int .i64 0, .int .i64 0]) ?_ 9 _ rfl; (with_reducible repeat (first | refine blk_drewN ?_ _ | refine blk_drew ?_ | refine blk_alloc ?_ _)); refine blk_put (cs := #[.int .i64 t331, .int .i64 t332, .int .i64 t333, .slice Ao16 t334.length co16, .slice Ao20 t337.length co20, .int .i64 t340, .int .i64 t341, .slice Ao22 t342.length co22, .int .i64 0, .int .i64 0, .int .i64 0, .int .i64 0]) ?_ 8 _ rfl; (with_reducible repeat (first | refine blk_drewN ?_ _ | refine blk_drew ?_ | refine blk_alloc ?_ _)); refine blk_put (cs := #[.int .i64 t331, .int .i64 t332, .int .i64 t333, .slice Ao16 t334.length co16, .slice Ao20 t337.length co20, .int .i64 t340, .int .i64 t341, .slice none 0 0, .int .i64 0, .int .i64 0, .int .i64 0, .int .i64 0]) ?_ 7 _ rfl; (with_reducible repeat (first | refine blk_drewN ?_ _ | refine blk_drew ?_ | refine blk_alloc ?_ _)); refine blk_put (cs := #[.int .i64 t331, .int .i64 t332, .int .i64 t333, .slice Ao16 t334.length co16, .slice Ao20 t337.length co20, .int .i64 t340, .int .i64 0, .slice none 0 0, .int .i64 0, .int .i64 0, .int .i64 0, .int .i64 0]) ?_ 6 _ rfl; (with_reducible repeat (first | refine blk_drewN ?_ _ | refine blk_drew ?_ | refine blk_alloc ?_ _)); refine blk_put (cs := #[.int .i64 t331, .int .i64 t332, .int .i64 t333, .slice Ao16 t334.length co16, .slice Ao20 t337.length co20, .int .i64 0, .int .i64 0, .slice none 0 0, .int .i64 0, .int .i64 0, .int .i64 0, .int .i64 0]) ?_ 5 _ rfl; (with_reducible repeat (first | refine blk_drewN ?_ _ | refine blk_drew ?_ | refine blk_alloc ?_ _)); refine blk_put (cs := #[.int .i64 t331, .int .i64 t332, .int .i64 t333, .slice Ao16 t334.length co16, .slice none 0 0, .int .i64 0, .int .i64 0, .slice none 0 0, .int .i64 0, .int .i64 0, .int .i64 0, .int .i64 0]) ?_ 4 _ rfl; (with_reducible repeat (first | refine blk_drewN ?_ _ | refine blk_drew ?_ | refine blk_alloc ?_ _)); refine blk_put (cs := #[.int .i64 t331, .int .i64 t332, .int .i64 t333, .slice none 0 0, .slice none 0 0, .int .i64 0, .int .i64 0, .slice none 0 0, .int .i64 0, .int .i64 0, .int .i64 0, .int .i64 0]) ?_ 3 _ rfl; (with_reducible repeat (first | refine blk_drewN ?_ _ | refine blk_drew ?_ | refine blk_alloc ?_ _)); refine blk_put (cs := #[.int .i64 t331, .int .i64 t332, .int .i64 0, .slice none 0 0, .slice none 0 0, .int .i64 0, .int .i64 0, .slice none 0 0, .int .i64 0, .int .i64 0, .int .i64 0, .int .i64 0]) ?_ 2 _ rfl; (with_reducible repeat (first | refine blk_drewN ?_ _ | refine blk_drew ?_ | refine blk_alloc ?_ _)); refine blk_put (cs := #[.int .i64 t331, .int .i64 0, .int .i64 0, .slice none 0 0, .slice none 0 0, .int .i64 0, .int .i64 0, .slice none 0 0, .int .i64 0, .int .i64 0, .int .i64 0, .int .i64 0]) ?_ 1 _ rfl; (with_reducible repeat (first | refine blk_drewN ?_ _ | refine blk_drew ?_ | refine blk_alloc ?_ _)); refine blk_put (cs := #[.int .i64 0, .int .i64 0, .int .i64 0, .slice none 0 0, .slice none 0 0, .int .i64 0, .int .i64 0, .slice none 0 0, .int .i64 0, .int .i64 0, .int .i64 0, .int .i64 0]) ?_ 0 _ rfl; (with_reducible repeat (first | refine blk_drewN ?_ _ | refine blk_drew ?_ | refine blk_alloc ?_ _)); refine blk_far ?_ NB329_330.out _; (with_reducible repeat (first | refine blk_drewN ?_ _ | refine blk_drew ?_ | refine blk_alloc ?_ _)); refine blk_far ?_ NB329_330.out _; (with_reducible repeat (first | refine blk_drewN ?_ _ | refine blk_drew ?_ | refine blk_alloc ?_ _)); refine blk_far ?_ NB329_330.out _; (with_reducible repeat (first | refine blk_drewN ?_ _ | refine blk_drew ?_ | refine blk_alloc ?_ _)); refine blk_far ?_ NB329_330.out _; (with_reducible repeat (first | refine blk_drewN ?_ _ | refine blk_drew ?_ | refine blk_alloc ?_ _)); refine blk_far ?_ NB329_330.out _; (with_reducible repeat (first | refine blk_drewN ?_ _ | refine blk_drew ?_ | refine blk_alloc ?_ _)); refine blk_far ?_ NB329_330.out _; (with_reducible repeat (first | refine blk_drewN ?_ _ | refine blk_drew ?_ | refine blk_alloc ?_ _)); refine blk_far ?_ NB329_330.out _; (with_reducible repeat (first | refine blk_drewN ?_ _ | refine blk_drew ?_ | refine blk_alloc ?_ _)); refine blk_far ?_ NB329_330.out _; exact Pst.qb BK329.out) Tryz.underlying41 rfl (by kernel_rfl)) rfl ?_
 exact ⟨_, _, _, Pst.e1, by (with_reducible repeat (first | apply Kd.R_alloc | apply Kd.R_drewN | apply Kd.R_drew)); exact Kd.R_mono (Kd.R_far (p := ⟨gb329, 11, none⟩) (Kd.R_far (p := ⟨gb329, 10, none⟩) (Kd.R_far (p := ⟨gb329, 9, none⟩) (Kd.R_far (p := ⟨gb329, 8, none⟩) (Kd.R_far (p := ⟨gb329, 7, none⟩) (Kd.R_far (p := ⟨gb329, 6, none⟩) (Kd.R_far (p := ⟨gb329, 5, none⟩) (Kd.R_far (p := ⟨gb329, 4, none⟩) (Kd.R_far (p := ⟨gb329, 3, none⟩) (Kd.R_far (p := ⟨gb329, 2, none⟩) (Kd.R_far (p := ⟨gb329, 1, none⟩) (Kd.R_far (p := ⟨gb329, 0, none⟩) (Kd.R_far (p := ⟨gb330, 11, none⟩) (Kd.R_far (p := ⟨gb330, 10, none⟩) (Kd.R_far (p := ⟨gb330, 9, none⟩) (Kd.R_far (p := ⟨gb330, 8, none⟩) (Kd.R_far (p := ⟨gb330, 7, none⟩) (Kd.R_far (p := ⟨gb330, 6, none⟩) (Kd.R_far (p := ⟨gb330, 5, none⟩) (Kd.R_far (p := ⟨gb330, 4, none⟩) (Kd.R_types (Kd.R_types HO336.out BK330.out (by decide)) BK329.out (by decide)) (fun _ hk => hk.1.2) (.slice Ao20 t337.length co20)) (fun _ hk => hk.1.2) (.int .i64 t340)) (fun _ hk => hk.1.2) (.int .i64 t341)) (fun _ hk => hk.1.2) (.slice Ao22 t342.length co22)) (fun _ hk => hk.1.2) (.int .i64 t345)) (fun _ hk => hk.1.2) (.int .i64 t346)) (fun _ hk => hk.1.2) (.int .i64 t347)) (fun _ hk => hk.1.2) (.int .i64 t348)) (fun _ hk => hk.2) (.int .i64 t331)) (fun _ hk => hk.2) (.int .i64 t332)) (fun _ hk => hk.2) (.int .i64 t333)) (fun _ hk => hk.2) (.slice Ao16 t334.length co16)) (fun _ hk => hk.2) (.slice Ao20 t337.length co20)) (fun _ hk => hk.2) (.int .i64 t340)) (fun _ hk => hk.2) (.int .i64 t341)) (fun _ hk => hk.2) (.slice Ao22 t342.length co22)) (fun _ hk => hk.2) (.int .i64 t345)) (fun _ hk => hk.2) (.int .i64 t346)) (fun _ hk => hk.2) (.int .i64 t347)) (fun _ hk => hk.2) (.int .i64 t348)) (fun _ hk => trivial), by (with_reducible repeat (first | apply Kd.R_alloc | apply Kd.R_drewN | apply Kd.R_drew)); exact Kd.R_mono (Kd.R_far (p := ⟨gb329, 11, none⟩) (Kd.R_far (p := ⟨gb329, 10, none⟩) (Kd.R_far (p := ⟨gb329, 9, none⟩) (Kd.R_far (p := ⟨gb329, 8, none⟩) (Kd.R_far (p := ⟨gb329, 7, none⟩) (Kd.R_far (p := ⟨gb329, 6, none⟩) (Kd.R_far (p := ⟨gb329, 5, none⟩) (Kd.R_far (p := ⟨gb329, 4, none⟩) (Kd.R_far (p := ⟨gb329, 3, none⟩) (Kd.R_far (p := ⟨gb329, 2, none⟩) (Kd.R_far (p := ⟨gb329, 1, none⟩) (Kd.R_far (p := ⟨gb329, 0, none⟩) (Kd.R_far (p := ⟨gb330, 11, none⟩) (Kd.R_far (p := ⟨gb330, 10, none⟩) (Kd.R_far (p := ⟨gb330, 9, none⟩) (Kd.R_far (p := ⟨gb330, 8, none⟩) (Kd.R_far (p := ⟨gb330, 7, none⟩) (Kd.R_far (p := ⟨gb330, 6, none⟩) (Kd.R_far (p := ⟨gb330, 5, none⟩) (Kd.R_far (p := ⟨gb330, 4, none⟩) (Kd.R_types (Kd.R_types HO339.out BK330.out (by decide)) BK329.out (by decide)) (fun _ hk => hk.1.2) (.slice Ao20 t337.length co20)) (fun _ hk => hk.1.2) (.int .i64 t340)) (fun _ hk => hk.1.2) (.int .i64 t341)) (fun _ hk => hk.1.2) (.slice Ao22 t342.length co22)) (fun _ hk => hk.1.2) (.int .i64 t345)) (fun _ hk => hk.1.2) (.int .i64 t346)) (fun _ hk => hk.1.2) (.int .i64 t347)) (fun _ hk => hk.1.2) (.int .i64 t348)) (fun _ hk => hk.2) (.int .i64 t331)) (fun _ hk => hk.2) (.int .i64 t332)) (fun _ hk => hk.2) (.int .i64 t333)) (fun _ hk => hk.2) (.slice Ao16 t334.length co16)) (fun _ hk => hk.2) (.slice Ao20 t337.length co20)) (fun _ hk => hk.2) (.int .i64 t340)) (fun _ hk => hk.2) (.int .i64 t341)) (fun _ hk => hk.2) (.slice Ao22 t342.length co22)) (fun _ hk => hk.2) (.int .i64 t345)) (fun _ hk => hk.2) (.int .i64 t346)) (fun _ hk => hk.2) (.int .i64 t347)) (fun _ hk => hk.2) (.int .i64 t348)) (fun _ hk => hk.1.1), by (with_reducible repeat (first | apply Kd.R_alloc | apply Kd.R_drewN | apply Kd.R_drew)); exact Kd.R_mono (Kd.R_far (p := ⟨gb329, 11, none⟩) (Kd.R_far (p := ⟨gb329, 10, none⟩) (Kd.R_far (p := ⟨gb329, 9, none⟩) (Kd.R_far (p := ⟨gb329, 8, none⟩) (Kd.R_far (p := ⟨gb329, 7, none⟩) (Kd.R_far (p := ⟨gb329, 6, none⟩) (Kd.R_far (p := ⟨gb329, 5, none⟩) (Kd.R_far (p := ⟨gb329, 4, none⟩) (Kd.R_far (p := ⟨gb329, 3, none⟩) (Kd.R_far (p := ⟨gb329, 2, none⟩) (Kd.R_far (p := ⟨gb329, 1, none⟩) (Kd.R_far (p := ⟨gb329, 0, none⟩) (Kd.R_far (p := ⟨gb330, 11, none⟩) (Kd.R_far (p := ⟨gb330, 10, none⟩) (Kd.R_far (p := ⟨gb330, 9, none⟩) (Kd.R_far (p := ⟨gb330, 8, none⟩) (Kd.R_far (p := ⟨gb330, 7, none⟩) (Kd.R_far (p := ⟨gb330, 6, none⟩) (Kd.R_far (p := ⟨gb330, 5, none⟩) (Kd.R_far (p := ⟨gb330, 4, none⟩) (Kd.R_types (Kd.R_types HO344.out BK330.out (by decide)) BK329.out (by decide)) (fun _ hk => hk.1.2) (.slice Ao20 t337.length co20)) (fun _ hk => hk.1.2) (.int .i64 t340)) (fun _ hk => hk.1.2) (.int .i64 t341)) (fun _ hk => hk.1.2) (.slice Ao22 t342.length co22)) (fun _ hk => hk.1.2) (.int .i64 t345)) (fun _ hk => hk.1.2) (.int .i64 t346)) (fun _ hk => hk.1.2) (.int .i64 t347)) (fun _ hk => hk.1.2) (.int .i64 t348)) (fun _ hk => hk.2) (.int .i64 t331)) (fun _ hk => hk.2) (.int .i64 t332)) (fun _ hk => hk.2) (.int .i64 t333)) (fun _ hk => hk.2) (.slice Ao16 t334.length co16)) (fun _ hk => hk.2) (.slice Ao20 t337.length co20)) (fun _ hk => hk.2) (.int .i64 t340)) (fun _ hk => hk.2) (.int .i64 t341)) (fun _ hk => hk.2) (.slice Ao22 t342.length co22)) (fun _ hk => hk.2) (.int .i64 t345)) (fun _ hk => hk.2) (.int .i64 t346)) (fun _ hk => hk.2) (.int .i64 t347)) (fun _ hk => hk.2) (.int .i64 t348)) (fun _ hk => hk.1.1), Pst.bes⟩

/-! ### laws_eqWorld: function 8 -/
--CALLS
/-! Two values that read the same are told equal. -/
def Yes (w : World) (e : Ending) (w' : World) : Prop := e = .returned (.bool true) ∧ Below w.heap.size w w'
theorem cellOn {w w1 : World} {a : Addr} {v : Value} (hb : Below w.heap.size w w1) (h : w.cell? a = some v) : w1.cell? a = some v := (hb.cell (Lib.lt_of_cell h)).trans h
theorem laws_eqGoal.same (s : ByteArray) (x y : Int) (w : World) : Calls Tryz.prog 61 #[.agg #[.string s, .int .i64 x, .int .i64 y], .agg #[.string s, .int .i64 x, .int .i64 y]] w (Yes w) := by
 go_enter Tryz.func61, Tryz.ntmps61
 go_wp2
 go_ret
 exact ⟨rfl, by repeat (first | exact Below.refl _ _ | apply below_alloc | apply pw_below_drewN | apply below_drew1)⟩
theorem laws_eqPolicy.same (s x y : Int) (w : World) : Calls Tryz.prog 117 #[.agg #[.int .i64 s, .int .i64 x, .int .i64 y], .agg #[.int .i64 s, .int .i64 x, .int .i64 y]] w (Yes w) := by
 go_enter Tryz.func117, Tryz.ntmps117
 go_wp2
 go_ret
 exact ⟨rfl, by repeat (first | exact Below.refl _ _ | apply below_alloc | apply pw_below_drewN | apply below_drew1)⟩
theorem laws_eqRules.same (s x y : Int) (w : World) : Calls Tryz.prog 32 #[.agg #[.int .i64 s, .int .i64 x, .int .i64 y], .agg #[.int .i64 s, .int .i64 x, .int .i64 y]] w (Yes w) := by
 go_enter Tryz.func32, Tryz.ntmps32
 go_wp2
 go_ret
 exact ⟨rfl, by repeat (first | exact Below.refl _ _ | apply below_alloc | apply pw_below_drewN | apply below_drew1)⟩
theorem laws_eqGoalS.same (A B : Option Addr) (c d : Nat) (l : List S82) (w : World) (hm : l.length ≤ 4611686018427387904) (hA : Kd.C k82 w A l.length l) (hB : Kd.C k82 w B l.length l) : Calls Tryz.prog 33 #[.slice A l.length c, .slice B l.length d] w (Yes w) := by
 have HA := Pst.A hA
 have HC := Pst.A hB
 have HB := Pst.A (Below.refl w.heap.size w)
 have HM := Pst.A hm
 clear hA hB
 generalize hn : l.length = n at *
 have HN := Pst.A hn
 clear hn
 go_enter Tryz.func33, Tryz.ntmps33
 go_wp2
 go_loopg [5] n (fun gg v5 wr => ∃ ii : Nat, v5 = .int .i64 ii ∧ n - ii ≤ gg ∧ ii ≤ n ∧ Aside0 (Below w.heap.size w wr))
 case atStart => exact ⟨0, rfl, by omega, by omega, HB⟩
 clear HB
 obtain ⟨ii, rfl, hgg, hii, HB⟩ := hrel
 by_cases hlt : ii < n
 ·obtain ⟨ad, e1, x0, x1, x2⟩ := at_T82 (Kd.C_below HA.out HB.out) (ii : Int) (by omega) (by omega)
  obtain ⟨bd, e2, y0, y1, y2⟩ := at_T82 (Kd.C_below HC.out HB.out) (ii : Int) (by omega) (by omega)
  cases e1
  cases e2
  simp only [Int.toNat_natCast] at x0 x1 x2 y0 y1 y2
  generalize rd_T82 l (ii : Int) = g at x0 x1 x2 y0 y1 y2
  have p0 : (0 : Int) ≤ (ii : Int) := by omega
  have p1 : (ii : Int) < (n : Int) := by omega
  have hm2 : n ≤ 4611686018427387904 := HM.out
  go_upto_region 6 with (fail)
  go_region_held3 (fun w' => w'.cell? (ad.add (ii * 3)) = some (.string g.f0) ∧ w'.cell? ⟨(ad.add (ii * 3)).block, (ad.add (ii * 3)).off + 1, none⟩ = some (.int .i64 g.f1) ∧ w'.cell? ⟨(ad.add (ii * 3)).block, (ad.add (ii * 3)).off + 2, none⟩ = some (.int .i64 g.f2) ∧ w'.cell? (bd.add (ii * 3)) = some (.string g.f0) ∧ w'.cell? ⟨(bd.add (ii * 3)).block, (bd.add (ii * 3)).off + 1, none⟩ = some (.int .i64 g.f1) ∧ w'.cell? ⟨(bd.add (ii * 3)).block, (bd.add (ii * 3)).off + 2, none⟩ = some (.int .i64 g.f2))
   (first | go_keep | exact ⟨cellOn hb x0, cellOn hb x1, cellOn hb x2, cellOn hb y0, cellOn hb y1, cellOn hb y2⟩)
   (first | (go_at_call 61; refine (laws_eqGoal.same g.f0 g.f1 g.f2 _).mono ?_; rintro e w2 ⟨rfl, hb⟩; have n_ := Pst.A (below_step (below_drew1 HB.out) hb); clear HB; have HB := n_; clear n_))
  go_wp2
  go_roundg (n - (ii + 1))
  case measure => omega
  case rel => exact ⟨ii + 1, by first | rfl | go_num, by omega, by omega, HB⟩
 go_wp2
 go_ret
 exact ⟨rfl, HB.out⟩
theorem laws_eqPolicyS.same (A B : Option Addr) (c d : Nat) (l : List S102) (w : World) (hm : l.length ≤ 4611686018427387904) (hA : Kd.C k102 w A l.length l) (hB : Kd.C k102 w B l.length l) : Calls Tryz.prog 90 #[.slice A l.length c, .slice B l.length d] w (Yes w) := by
 have HA := Pst.A hA
 have HC := Pst.A hB
 have HB := Pst.A (Below.refl w.heap.size w)
 have HM := Pst.A hm
 clear hA hB
 generalize hn : l.length = n at *
 have HN := Pst.A hn
 clear hn
 go_enter Tryz.func90, Tryz.ntmps90
 go_wp2
 go_loopg [5] n (fun gg v5 wr => ∃ ii : Nat, v5 = .int .i64 ii ∧ n - ii ≤ gg ∧ ii ≤ n ∧ Aside0 (Below w.heap.size w wr))
 case atStart => exact ⟨0, rfl, by omega, by omega, HB⟩
 clear HB
 obtain ⟨ii, rfl, hgg, hii, HB⟩ := hrel
 by_cases hlt : ii < n
 ·obtain ⟨ad, e1, x0, x1, x2⟩ := at_T102 (Kd.C_below HA.out HB.out) (ii : Int) (by omega) (by omega)
  obtain ⟨bd, e2, y0, y1, y2⟩ := at_T102 (Kd.C_below HC.out HB.out) (ii : Int) (by omega) (by omega)
  cases e1
  cases e2
  simp only [Int.toNat_natCast] at x0 x1 x2 y0 y1 y2
  generalize rd_T102 l (ii : Int) = g at x0 x1 x2 y0 y1 y2
  have p0 : (0 : Int) ≤ (ii : Int) := by omega
  have p1 : (ii : Int) < (n : Int) := by omega
  have hm2 : n ≤ 4611686018427387904 := HM.out
  go_upto_region 6 with (fail)
  go_region_held3 (fun w' => w'.cell? (ad.add (ii * 3)) = some (.int .i64 g.f0) ∧ w'.cell? ⟨(ad.add (ii * 3)).block, (ad.add (ii * 3)).off + 1, none⟩ = some (.int .i64 g.f1) ∧ w'.cell? ⟨(ad.add (ii * 3)).block, (ad.add (ii * 3)).off + 2, none⟩ = some (.int .i64 g.f2) ∧ w'.cell? (bd.add (ii * 3)) = some (.int .i64 g.f0) ∧ w'.cell? ⟨(bd.add (ii * 3)).block, (bd.add (ii * 3)).off + 1, none⟩ = some (.int .i64 g.f1) ∧ w'.cell? ⟨(bd.add (ii * 3)).block, (bd.add (ii * 3)).off + 2, none⟩ = some (.int .i64 g.f2))
   (first | go_keep | exact ⟨cellOn hb x0, cellOn hb x1, cellOn hb x2, cellOn hb y0, cellOn hb y1, cellOn hb y2⟩)
   (first | (go_at_call 117; refine (laws_eqPolicy.same g.f0 g.f1 g.f2 _).mono ?_; rintro e w2 ⟨rfl, hb⟩; have n_ := Pst.A (below_step (below_drew1 HB.out) hb); clear HB; have HB := n_; clear n_))
  go_wp2
  go_roundg (n - (ii + 1))
  case measure => omega
  case rel => exact ⟨ii + 1, by first | rfl | go_num, by omega, by omega, HB⟩
 go_wp2
 go_ret
 exact ⟨rfl, HB.out⟩
theorem laws_eqIntS.same (A B : Option Addr) (c d : Nat) (l : List Int) (w : World) (hm : l.length ≤ 4611686018427387904) (hA : Kd.C (Kd.int .i64) w A l.length l) (hB : Kd.C (Kd.int .i64) w B l.length l) : Calls Tryz.prog 31 #[.slice A l.length c, .slice B l.length d] w (Yes w) := by
 have HA := Pst.A hA
 have HC := Pst.A hB
 have HM := Pst.A hm
 clear hA hB
 generalize hn : l.length = n at *
 have HN := Pst.A hn
 clear hn
 go_enter Tryz.func31, Tryz.ntmps31
 go_wp2
 go_loopg [5] n (fun gg v5 wr => ∃ ii : Nat, v5 = .int .i64 ii ∧ n - ii ≤ gg ∧ ii ≤ n ∧ ∃ m : Nat, wr = w.drewN m)
 case atStart => exact ⟨0, rfl, by omega, by omega, 0, rfl⟩
 obtain ⟨ii, rfl, hgg, hii, m, rfl⟩ := hrel
 by_cases hlt : ii < n
 ·obtain ⟨ad, e1, x0⟩ := Kd.at_int HA.out (ii : Int) (by omega) (by omega)
  obtain ⟨bd, e2, y0⟩ := Kd.at_int HC.out (ii : Int) (by omega) (by omega)
  cases e1
  cases e2
  simp only [Int.toNat_natCast] at x0 y0
  generalize rd l (ii : Int) = g at x0 y0
  have p0 : (0 : Int) ≤ (ii : Int) := by omega
  have p1 : (ii : Int) < (n : Int) := by omega
  have hm2 : n ≤ 4611686018427387904 := HM.out
  go_wp2
  repeat (go_quiet (fail); try go_wp2)
  go_roundg (n - (ii + 1))
  case measure => omega
  case rel => exact ⟨ii + 1, by first | rfl | go_num, by omega, by omega, _, rfl⟩
 go_wp2
 go_ret
 exact ⟨rfl, pw_below_drewN (Below.refl _ _) _⟩
theorem laws_eqSide.same (A4 B4 : Option Addr) (cA4 cB4 : Nat) (p : List S102) (d e : Int) (w : World) (hm4 : p.length ≤ 4611686018427387904) (ha4 : Kd.C k102 w A4 p.length p) (hb4 : Kd.C k102 w B4 p.length p) : Calls Tryz.prog 62 #[.agg #[.slice A4 p.length cA4, .int .i64 d, .int .i64 e], .agg #[.slice B4 p.length cB4, .int .i64 d, .int .i64 e]] w (Yes w) := by

 have HM4 := Pst.A hm4
 clear hm4
 have HA4 := Pst.A ha4
 clear ha4
 have HB4 := Pst.A hb4
 clear hb4
 have HB := Pst.A (Below.refl w.heap.size w)
 go_enter Tryz.func62, Tryz.ntmps62
 go_wp2_with (first
  | ((with_reducible refine gate_dst (N := 2) rfl ?_); refine Pst.bx 2 #[.slice A4 p.length cA4, .int .i64 d, .int .i64 e] 37 ?_; intro g2 hg w2 hbox hb; have n0_ := Pst.A (below_step Pst.bel hb); clear HB ; have HB := n0_; have BK2 := Pst.A hbox; clear n0_ hb hbox hg)
  | ((with_reducible refine gate_dst (N := 3) rfl ?_); refine Pst.bx 3 #[.slice B4 p.length cB4, .int .i64 d, .int .i64 e] 37 ?_; intro g3 hg w3 hbox hb; have n0_ := Pst.A (below_step Pst.bel hb); have n2_ := Pst.A (Pst.kb BK2.out hb); clear HB BK2; have HB := n0_; have BK3 := Pst.A hbox; have BK2 := n2_; clear n2_; clear n0_ hb hbox hg; obtain ⟨_,_,_⟩ := Pst.c3 BK2.out; obtain ⟨_,_,_⟩ := Pst.c3 BK3.out)
  | (go_at_call 90; (with_reducible refine (laws_eqPolicyS.same A4 B4 cA4 cB4 p _ HM4.out (Kd.C_below HA4.out Pst.bel) (Kd.C_below HB4.out Pst.bel)).mono ?_); rintro e w4 ⟨rfl, hb⟩; have n0_ := Pst.A (below_step Pst.bel hb); have n2_ := Pst.A (Pst.kb BK2.out hb); have n3_ := Pst.A (Pst.kb BK3.out hb); clear HB BK2 BK3 hb; have HB := n0_; have BK2 := n2_; have BK3 := n3_; clear n0_ n2_ n3_; obtain ⟨_,_,_⟩ := Pst.c3 BK2.out; obtain ⟨_,_,_⟩ := Pst.c3 BK3.out))
 go_ret
 exact ⟨rfl, Pst.bel⟩
theorem laws_eqBehave.same (A4 B4 : Option Addr) (cA4 cB4 : Nat) (p : List S102) (d e : Int) (A7 B7 : Option Addr) (cA7 cB7 : Nat) (q : List S102) (m n i j : Int) (w : World) (hm4 : p.length ≤ 4611686018427387904) (ha4 : Kd.C k102 w A4 p.length p) (hb4 : Kd.C k102 w B4 p.length p) (hm7 : q.length ≤ 4611686018427387904) (ha7 : Kd.C k102 w A7 q.length q) (hb7 : Kd.C k102 w B7 q.length q) : Calls Tryz.prog 34 #[.agg #[.slice A4 p.length cA4, .int .i64 d, .int .i64 e, .slice A7 q.length cA7, .int .i64 m, .int .i64 n, .int .i64 i, .int .i64 j], .agg #[.slice B4 p.length cB4, .int .i64 d, .int .i64 e, .slice B7 q.length cB7, .int .i64 m, .int .i64 n, .int .i64 i, .int .i64 j]] w (Yes w) := by

 have HM4 := Pst.A hm4
 clear hm4
 have HA4 := Pst.A ha4
 clear ha4
 have HB4 := Pst.A hb4
 clear hb4
 have HM7 := Pst.A hm7
 clear hm7
 have HA7 := Pst.A ha7
 clear ha7
 have HB7 := Pst.A hb7
 clear hb7
 have HB := Pst.A (Below.refl w.heap.size w)
 go_enter Tryz.func34, Tryz.ntmps34
 go_wp2_with (first
  | ((with_reducible refine gate_dst (N := 2) rfl ?_); refine Pst.bx 2 #[.slice A4 p.length cA4, .int .i64 d, .int .i64 e, .slice A7 q.length cA7, .int .i64 m, .int .i64 n, .int .i64 i, .int .i64 j] 39 ?_; intro g2 hg w2 hbox hb; have n0_ := Pst.A (below_step Pst.bel hb); clear HB ; have HB := n0_; have BK2 := Pst.A hbox; clear n0_ hb hbox hg)
  | ((with_reducible refine gate_dst (N := 3) rfl ?_); refine Pst.bx 3 #[.slice B4 p.length cB4, .int .i64 d, .int .i64 e, .slice B7 q.length cB7, .int .i64 m, .int .i64 n, .int .i64 i, .int .i64 j] 39 ?_; intro g3 hg w3 hbox hb; have n0_ := Pst.A (below_step Pst.bel hb); have n2_ := Pst.A (Pst.kb BK2.out hb); clear HB BK2; have HB := n0_; have BK3 := Pst.A hbox; have BK2 := n2_; clear n2_; clear n0_ hb hbox hg; obtain ⟨_,_,_,_,_,_,_,_⟩ := Pst.c8 BK2.out; obtain ⟨_,_,_,_,_,_,_,_⟩ := Pst.c8 BK3.out)
  | (go_at_call 62; (with_reducible refine (laws_eqSide.same A4 B4 cA4 cB4 p d e _ HM4.out (Kd.C_below HA4.out Pst.bel) (Kd.C_below HB4.out Pst.bel)).mono ?_); rintro e w4 ⟨rfl, hb⟩; have n0_ := Pst.A (below_step Pst.bel hb); have n2_ := Pst.A (Pst.kb BK2.out hb); have n3_ := Pst.A (Pst.kb BK3.out hb); clear HB BK2 BK3 hb; have HB := n0_; have BK2 := n2_; have BK3 := n3_; clear n0_ n2_ n3_; obtain ⟨_,_,_,_,_,_,_,_⟩ := Pst.c8 BK2.out; obtain ⟨_,_,_,_,_,_,_,_⟩ := Pst.c8 BK3.out)
  | (go_at_call 62; (with_reducible refine (laws_eqSide.same A7 B7 cA7 cB7 q m n _ HM7.out (Kd.C_below HA7.out Pst.bel) (Kd.C_below HB7.out Pst.bel)).mono ?_); rintro e w4 ⟨rfl, hb⟩; have n0_ := Pst.A (below_step Pst.bel hb); have n2_ := Pst.A (Pst.kb BK2.out hb); have n3_ := Pst.A (Pst.kb BK3.out hb); clear HB BK2 BK3 hb; have HB := n0_; have BK2 := n2_; have BK3 := n3_; clear n0_ n2_ n3_; obtain ⟨_,_,_,_,_,_,_,_⟩ := Pst.c8 BK2.out; obtain ⟨_,_,_,_,_,_,_,_⟩ := Pst.c8 BK3.out))
 go_ret
 exact ⟨rfl, Pst.bel⟩
theorem laws_eqSetup.same (a b c : Int) (A3 B3 : Option Addr) (cA3 cB3 : Nat) (g : List S82) (A4 B4 : Option Addr) (cA4 cB4 : Nat) (p : List S102) (d e : Int) (A7 B7 : Option Addr) (cA7 cB7 : Nat) (q : List S102) (m n i j : Int) (w : World) (hm3 : g.length ≤ 4611686018427387904) (ha3 : Kd.C k82 w A3 g.length g) (hb3 : Kd.C k82 w B3 g.length g) (hm4 : p.length ≤ 4611686018427387904) (ha4 : Kd.C k102 w A4 p.length p) (hb4 : Kd.C k102 w B4 p.length p) (hm7 : q.length ≤ 4611686018427387904) (ha7 : Kd.C k102 w A7 q.length q) (hb7 : Kd.C k102 w B7 q.length q) : Calls Tryz.prog 9 #[.agg #[.int .i64 a, .int .i64 b, .int .i64 c, .slice A3 g.length cA3, .slice A4 p.length cA4, .int .i64 d, .int .i64 e, .slice A7 q.length cA7, .int .i64 m, .int .i64 n, .int .i64 i, .int .i64 j], .agg #[.int .i64 a, .int .i64 b, .int .i64 c, .slice B3 g.length cB3, .slice B4 p.length cB4, .int .i64 d, .int .i64 e, .slice B7 q.length cB7, .int .i64 m, .int .i64 n, .int .i64 i, .int .i64 j]] w (Yes w) := by

 have HM3 := Pst.A hm3
 clear hm3
 have HA3 := Pst.A ha3
 clear ha3
 have HB3 := Pst.A hb3
 clear hb3
 have HM4 := Pst.A hm4
 clear hm4
 have HA4 := Pst.A ha4
 clear ha4
 have HB4 := Pst.A hb4
 clear hb4
 have HM7 := Pst.A hm7
 clear hm7
 have HA7 := Pst.A ha7
 clear ha7
 have HB7 := Pst.A hb7
 clear hb7
 have HB := Pst.A (Below.refl w.heap.size w)
 go_enter Tryz.func9, Tryz.ntmps9
 go_wp2_with (first
  | ((with_reducible refine gate_dst (N := 2) rfl ?_); refine Pst.bx 2 #[.int .i64 a, .int .i64 b, .int .i64 c, .slice A3 g.length cA3, .slice A4 p.length cA4, .int .i64 d, .int .i64 e, .slice A7 q.length cA7, .int .i64 m, .int .i64 n, .int .i64 i, .int .i64 j] 41 ?_; intro g2 hg w2 hbox hb; have n0_ := Pst.A (below_step Pst.bel hb); clear HB ; have HB := n0_; have BK2 := Pst.A hbox; clear n0_ hb hbox hg)
  | ((with_reducible refine gate_dst (N := 3) rfl ?_); refine Pst.bx 3 #[.int .i64 a, .int .i64 b, .int .i64 c, .slice B3 g.length cB3, .slice B4 p.length cB4, .int .i64 d, .int .i64 e, .slice B7 q.length cB7, .int .i64 m, .int .i64 n, .int .i64 i, .int .i64 j] 41 ?_; intro g3 hg w3 hbox hb; have n0_ := Pst.A (below_step Pst.bel hb); have n2_ := Pst.A (Pst.kb BK2.out hb); clear HB BK2; have HB := n0_; have BK3 := Pst.A hbox; have BK2 := n2_; clear n2_; clear n0_ hb hbox hg; obtain ⟨_,_,_,_,_,_,_,_,_,_,_,_⟩ := Pst.c12 BK2.out; obtain ⟨_,_,_,_,_,_,_,_,_,_,_,_⟩ := Pst.c12 BK3.out)
  | (go_at_call 32; (with_reducible refine (laws_eqRules.same a b c _).mono ?_); rintro e w4 ⟨rfl, hb⟩; have n0_ := Pst.A (below_step Pst.bel hb); have n2_ := Pst.A (Pst.kb BK2.out hb); have n3_ := Pst.A (Pst.kb BK3.out hb); clear HB BK2 BK3 hb; have HB := n0_; have BK2 := n2_; have BK3 := n3_; clear n0_ n2_ n3_; obtain ⟨_,_,_,_,_,_,_,_,_,_,_,_⟩ := Pst.c12 BK2.out; obtain ⟨_,_,_,_,_,_,_,_,_,_,_,_⟩ := Pst.c12 BK3.out)
  | (go_at_call 33; (with_reducible refine (laws_eqGoalS.same A3 B3 cA3 cB3 g _ HM3.out (Kd.C_below HA3.out Pst.bel) (Kd.C_below HB3.out Pst.bel)).mono ?_); rintro e w4 ⟨rfl, hb⟩; have n0_ := Pst.A (below_step Pst.bel hb); have n2_ := Pst.A (Pst.kb BK2.out hb); have n3_ := Pst.A (Pst.kb BK3.out hb); clear HB BK2 BK3 hb; have HB := n0_; have BK2 := n2_; have BK3 := n3_; clear n0_ n2_ n3_; obtain ⟨_,_,_,_,_,_,_,_,_,_,_,_⟩ := Pst.c12 BK2.out; obtain ⟨_,_,_,_,_,_,_,_,_,_,_,_⟩ := Pst.c12 BK3.out)
  | (go_at_call 34; (with_reducible refine (laws_eqBehave.same A4 B4 cA4 cB4 p d e A7 B7 cA7 cB7 q m n i j _ HM4.out (Kd.C_below HA4.out Pst.bel) (Kd.C_below HB4.out Pst.bel) HM7.out (Kd.C_below HA7.out Pst.bel) (Kd.C_below HB7.out Pst.bel)).mono ?_); rintro e w4 ⟨rfl, hb⟩; have n0_ := Pst.A (below_step Pst.bel hb); have n2_ := Pst.A (Pst.kb BK2.out hb); have n3_ := Pst.A (Pst.kb BK3.out hb); clear HB BK2 BK3 hb; have HB := n0_; have BK2 := n2_; have BK3 := n3_; clear n0_ n2_ n3_; obtain ⟨_,_,_,_,_,_,_,_,_,_,_,_⟩ := Pst.c12 BK2.out; obtain ⟨_,_,_,_,_,_,_,_,_,_,_,_⟩ := Pst.c12 BK3.out))
 go_ret
 exact ⟨rfl, Pst.bel⟩
theorem laws_eqWorld.same (a b c : Int) (A3 B3 : Option Addr) (cA3 cB3 : Nat) (g : List S82) (A4 B4 : Option Addr) (cA4 cB4 : Nat) (p : List S102) (d e : Int) (A7 B7 : Option Addr) (cA7 cB7 : Nat) (q : List S102) (m n i j : Int) (A12 B12 : Option Addr) (cA12 cB12 : Nat) (L : List Int) (x y z : Int) (w : World) (hm3 : g.length ≤ 4611686018427387904) (ha3 : Kd.C k82 w A3 g.length g) (hb3 : Kd.C k82 w B3 g.length g) (hm4 : p.length ≤ 4611686018427387904) (ha4 : Kd.C k102 w A4 p.length p) (hb4 : Kd.C k102 w B4 p.length p) (hm7 : q.length ≤ 4611686018427387904) (ha7 : Kd.C k102 w A7 q.length q) (hb7 : Kd.C k102 w B7 q.length q) (hm12 : L.length ≤ 4611686018427387904) (ha12 : Kd.C (Kd.int .i64) w A12 L.length L) (hb12 : Kd.C (Kd.int .i64) w B12 L.length L) : Calls Tryz.prog 8 #[.agg #[.int .i64 a, .int .i64 b, .int .i64 c, .slice A3 g.length cA3, .slice A4 p.length cA4, .int .i64 d, .int .i64 e, .slice A7 q.length cA7, .int .i64 m, .int .i64 n, .int .i64 i, .int .i64 j, .slice A12 L.length cA12, .int .i64 x, .int .i64 y, .int .i64 z], .agg #[.int .i64 a, .int .i64 b, .int .i64 c, .slice B3 g.length cB3, .slice B4 p.length cB4, .int .i64 d, .int .i64 e, .slice B7 q.length cB7, .int .i64 m, .int .i64 n, .int .i64 i, .int .i64 j, .slice B12 L.length cB12, .int .i64 x, .int .i64 y, .int .i64 z]] w (Yes w) := by

 have HM3 := Pst.A hm3
 clear hm3
 have HA3 := Pst.A ha3
 clear ha3
 have HB3 := Pst.A hb3
 clear hb3
 have HM4 := Pst.A hm4
 clear hm4
 have HA4 := Pst.A ha4
 clear ha4
 have HB4 := Pst.A hb4
 clear hb4
 have HM7 := Pst.A hm7
 clear hm7
 have HA7 := Pst.A ha7
 clear ha7
 have HB7 := Pst.A hb7
 clear hb7
 have HM12 := Pst.A hm12
 clear hm12
 have HA12 := Pst.A ha12
 clear ha12
 have HB12 := Pst.A hb12
 clear hb12
 have HB := Pst.A (Below.refl w.heap.size w)
 go_enter Tryz.func8, Tryz.ntmps8
 go_wp2_with (first
  | ((with_reducible refine gate_dst (N := 2) rfl ?_); refine Pst.bx 2 #[.int .i64 a, .int .i64 b, .int .i64 c, .slice A3 g.length cA3, .slice A4 p.length cA4, .int .i64 d, .int .i64 e, .slice A7 q.length cA7, .int .i64 m, .int .i64 n, .int .i64 i, .int .i64 j, .slice A12 L.length cA12, .int .i64 x, .int .i64 y, .int .i64 z] 44 ?_; intro g2 hg w2 hbox hb; have n0_ := Pst.A (below_step Pst.bel hb); clear HB ; have HB := n0_; have BK2 := Pst.A hbox; clear n0_ hb hbox hg)
  | ((with_reducible refine gate_dst (N := 3) rfl ?_); refine Pst.bx 3 #[.int .i64 a, .int .i64 b, .int .i64 c, .slice B3 g.length cB3, .slice B4 p.length cB4, .int .i64 d, .int .i64 e, .slice B7 q.length cB7, .int .i64 m, .int .i64 n, .int .i64 i, .int .i64 j, .slice B12 L.length cB12, .int .i64 x, .int .i64 y, .int .i64 z] 44 ?_; intro g3 hg w3 hbox hb; have n0_ := Pst.A (below_step Pst.bel hb); have n2_ := Pst.A (Pst.kb BK2.out hb); clear HB BK2; have HB := n0_; have BK3 := Pst.A hbox; have BK2 := n2_; clear n2_; clear n0_ hb hbox hg; obtain ⟨_,_,_,_,_,_,_,_,_,_,_,_,_,_,_,_⟩ := Pst.c16 BK2.out; obtain ⟨_,_,_,_,_,_,_,_,_,_,_,_,_,_,_,_⟩ := Pst.c16 BK3.out)
  | (go_at_call 9; (with_reducible refine (laws_eqSetup.same a b c A3 B3 cA3 cB3 g A4 B4 cA4 cB4 p d e A7 B7 cA7 cB7 q m n i j _ HM3.out (Kd.C_below HA3.out Pst.bel) (Kd.C_below HB3.out Pst.bel) HM4.out (Kd.C_below HA4.out Pst.bel) (Kd.C_below HB4.out Pst.bel) HM7.out (Kd.C_below HA7.out Pst.bel) (Kd.C_below HB7.out Pst.bel)).mono ?_); rintro e w4 ⟨rfl, hb⟩; have n0_ := Pst.A (below_step Pst.bel hb); have n2_ := Pst.A (Pst.kb BK2.out hb); have n3_ := Pst.A (Pst.kb BK3.out hb); clear HB BK2 BK3 hb; have HB := n0_; have BK2 := n2_; have BK3 := n3_; clear n0_ n2_ n3_; obtain ⟨_,_,_,_,_,_,_,_,_,_,_,_,_,_,_,_⟩ := Pst.c16 BK2.out; obtain ⟨_,_,_,_,_,_,_,_,_,_,_,_,_,_,_,_⟩ := Pst.c16 BK3.out)
  | (go_at_call 31; (with_reducible refine (laws_eqIntS.same A12 B12 cA12 cB12 L _ HM12.out (Kd.C_below HA12.out Pst.bel) (Kd.C_below HB12.out Pst.bel)).mono ?_); rintro e w4 ⟨rfl, hb⟩; have n0_ := Pst.A (below_step Pst.bel hb); have n2_ := Pst.A (Pst.kb BK2.out hb); have n3_ := Pst.A (Pst.kb BK3.out hb); clear HB BK2 BK3 hb; have HB := n0_; have BK2 := n2_; have BK3 := n3_; clear n0_ n2_ n3_; obtain ⟨_,_,_,_,_,_,_,_,_,_,_,_,_,_,_,_⟩ := Pst.c16 BK2.out; obtain ⟨_,_,_,_,_,_,_,_,_,_,_,_,_,_,_,_⟩ := Pst.c16 BK3.out))
 go_ret
 exact ⟨rfl, Pst.bel⟩

/-! ### laws_eqSetup: function 9 -/
--CALLS
theorem laws_eqSetup.told : True := trivial

/-! ### laws_markText: function 63 -/
def laws_markText.l0 : Nat → Int → ByteArray → Option (ByteArray)
 | 0, _, _ => none
 | k + 1, x0, x3 => if x0 > 0 then ((some (([(wrap64 (48 + (Int.tmod x0 10))) % 256] : List Int) : List Int)).bind fun y349 => (if (strOfNums y349).size + x3.size ≤ 9223372036854775807 then (laws_markText.l0 k (wrap64 (Int.tdiv x0 10)) ((strOfNums y349) ++ x3)) else (none))) else (if 1 + x3.size ≤ 9223372036854775807 then (some ((⟨#[109]⟩ : ByteArray) ++ x3)) else (none))
def laws_markText.f (k : Nat) (a0 : Int) : Option (ByteArray) := if a0 ≤ 0 then (some (⟨#[109, 48]⟩ : ByteArray)) else (laws_markText.l0 k a0 (⟨#[]⟩ : ByteArray))
theorem laws_markText.mono_l : ∀ k, (∀ y0 y1, LeO (laws_markText.l0 k y0 y1) (laws_markText.l0 (k + 1) y0 y1))
 | 0 => fun _ _ r h => by simp [laws_markText.l0] at h
 | k + 1 => by
  have ih0 := laws_markText.mono_l k
  ·intro y0 y1
   unfold laws_markText.l0
   exact Pst.mo
theorem laws_markText.mono : ∀ a0 k, LeO (laws_markText.f k a0) (laws_markText.f (k + 1) a0) := by
 intro a0 k
 have ih0 := laws_markText.mono_l k
 unfold laws_markText.f
 exact Pst.mo
theorem laws_markText.calls (k : Nat) (a0 : Int) (r : ByteArray) (w : World) (h : laws_markText.f k a0 = some r) :
    Calls Tryz.prog 63 #[.int .i64 a0] w fun e w' => e = .returned (.string r) ∧ Below w.heap.size w w' := by
 have HB := Pst.A (Below.refl w.heap.size w)
 have H : (if a0 ≤ 0 then (some (⟨#[109, 48]⟩ : ByteArray)) else (laws_markText.l0 k a0 (⟨#[]⟩ : ByteArray))) = some r := h
 clear h
 by_cases c2 : a0 ≤ 0
 ·rw [if_pos c2] at H
  have c2b0 : decide (a0 ≤ 0) = true := decide_eq_true c2
  clear c2
  obtain rfl := Option.some.inj H
  go_enter Tryz.func63, Tryz.ntmps63
  go_wp2
  go_ret
  exact ⟨Pst.e1, Pst.bel⟩
 ·rw [if_neg c2] at H
  have c2b0 : decide (a0 ≤ 0) = false := decide_eq_false c2
  clear c2
  have H' := Pst.A H
  clear H
  go_enter Tryz.func63, Tryz.ntmps63
  go_wp2
  go_loopg [0, 3] k (fun kq v0 v3 w' => ∃ (x0_1 : Int) (x3_1 : ByteArray), v0 = .int .i64 x0_1 ∧ v3 = .string x3_1 ∧ Aside0 (laws_markText.l0 kq x0_1 x3_1 = some r) ∧ Aside0 (kq ≤ k) ∧ Aside0 (Below w.heap.size w w'))
  case atStart => exact ⟨(a0), ((⟨#[]⟩ : ByteArray)), Pst.e2, Pst.e2, H', ⟨Nat.le_refl _⟩, ⟨Pst.bel⟩⟩
  clear H'
  try clear c2
  try clear c2b0
  try clear p2
  obtain ⟨x0_1, x3_1, rfl, rfl, HA, HK1, HB⟩ := hrel
  cases gk with
  | zero => exact absurd HA.out (by simp [laws_markText.l0])
  | succ k1 =>
   have H := HA.out
   clear HA
   simp only [laws_markText.l0] at H
   by_cases c3 : x0_1 > 0
   ·rw [if_pos c3] at H
    have c3b0 : decide (0 < x0_1) = true := decide_eq_true c3
    clear c3
    obtain ⟨y349, hy349⟩ : ∃ y_ : List Int, y_ = (([(wrap64 (48 + (Int.tmod x0_1 10))) % 256] : List Int)) := ⟨_, rfl⟩
    replace H : (if (strOfNums y349).size + x3_1.size ≤ 9223372036854775807 then (laws_markText.l0 k1 (wrap64 (Int.tdiv x0_1 10)) ((strOfNums y349) ++ x3_1)) else (none)) = some r := by first | (rw [hy349]; with_reducible exact H) | (have H2_ := (Option.bind_some _ _).symm.trans H; rw [hy349]; with_reducible exact H2_) | (have H2_ := (Option.bind_some _ _).symm.trans H; with_reducible exact H2_) | with_reducible exact H | (rw [hy349]; exact H) | exact H
    have Ny349 := Pst.A hy349
    clear hy349
    by_cases c4 : (strOfNums y349).size + x3_1.size ≤ 9223372036854775807
    ·rw [if_pos c4] at H
     have c4b0 := eq_true c4
     have c4b1 : decide ((strOfNums y349).size + x3_1.size ≤ 9223372036854775807) = true := decide_eq_true c4
     try have c4b2 : (9223372036854775807 < (strOfNums y349).size + x3_1.size) = False := eq_false (Nat.not_lt.2 c4)
     have H' := Pst.A H
     clear H
     go_wp2_with (first | ((with_reducible refine gate_dst (N := 12) rfl ?_); refine Kd.R_lit (Kd.int .u8) _ 5 ?hg (N := 12) ?hd (xs := ([(wrap64 (48 + (Int.tmod x0_1 10))) % 256] : List Int)) (inner := [.int .u8 ((wrap64 (48 + (Int.tmod x0_1 10))) % 256)]) (ok := fun _ => True) (okp := fun _ => True) ?hr ?hp (fun _ hk => hk) trivial (Below.refl _ _) (Nat.le_refl _) (by simp) ?_; (case hd => rfl); (case hg => rfl); (case hr => exact Pst.gr); (case hp => exact (Reps.one (show Kd.M (Kd.int .u8) _ _ _ ((wrap64 (48 + (Int.tmod x0_1 10))) % 256) [.int .u8 ((wrap64 (48 + (Int.tmod x0_1 10))) % 256)] from rfl) (Reps.none _ _))); intro v350 w5 ho6 hb hg_ hnew_; clear hg_ hnew_; (first | rw [← Ny349.out] at ho6 | (simp only [Int.reduceToNat] at ho6; rw [← Ny349.out] at ho6)); have HO351 := Pst.A (Kd.R_lower ho6 (below_size Pst.bel)); replace HB := Pst.A (below_step Pst.bel hb); clear hb ho6; have hcv7 := own_string (P := Tryz.prog) Tryz.underlying100 Tryz.underlying5 Tryz.underlying9 (Kd.own_of_R HO351.out)))
     go_roundg k1
     case measure => have := HK1.out; omega
     case rel => exact ⟨(wrap64 (Int.tdiv x0_1 10)), ((strOfNums y349) ++ x3_1), Pst.e2, Pst.e2, H', ⟨by have := HK1.out; omega⟩, ⟨Pst.bel⟩⟩
    ·rw [if_neg c4] at H
     exact absurd H (by simp)
   ·rw [if_neg c3] at H
    have c3b0 : decide (0 < x0_1) = false := decide_eq_false c3
    clear c3
    by_cases c8 : 1 + x3_1.size ≤ 9223372036854775807
    ·rw [if_pos c8] at H
     have c8b0 := eq_true c8
     have c8b1 : decide (1 + x3_1.size ≤ 9223372036854775807) = true := decide_eq_true c8
     try have c8b2 : (9223372036854775807 < 1 + x3_1.size) = False := eq_false (Nat.not_lt.2 c8)
     obtain rfl := Option.some.inj H
     go_wp2
     go_ret
     exact ⟨Pst.e1, Pst.bel⟩
    ·rw [if_neg c8] at H
     exact absurd H (by simp)
theorem laws_markText.l0.st {x0 : Int} {x3 : ByteArray} {r : (ByteArray)} (H : Ev (fun k => if x0 > 0 then ((some (([(wrap64 (48 + (Int.tmod x0 10))) % 256] : List Int) : List Int)).bind fun y349 => (if (strOfNums y349).size + x3.size ≤ 9223372036854775807 then (laws_markText.l0 k (wrap64 (Int.tdiv x0 10)) ((strOfNums y349) ++ x3)) else (none))) else (if 1 + x3.size ≤ 9223372036854775807 then (some ((⟨#[109]⟩ : ByteArray) ++ x3)) else (none))) r) : Ev (fun k => laws_markText.l0 k x0 x3) r := Ev.step (fun k => laws_markText.l0.eq_2 x0 x3 k) H

/-! ### laws_markGoalS: function 35 -/
def laws_markGoalS.l0 : Nat → List (S82) → Int → Int → Option (Int × (List (S82)))
 | 0, _, _, _ => none
 | k + 1, x0, x1, x5 => if x5 < (x0.length : Int) then ((laws_markText.f k x1).bind fun t352 => (if 0 ≤ x5 then ((some (x0.set (x5 : Int).toNat (⟨t352, (rd_T82 x0 x5).f1, (rd_T82 x0 x5).f2⟩ : S82) : List (S82))).bind fun y353 => ((some (y353.set (x5 : Int).toNat (⟨(rd_T82 y353 x5).f0, wrap64 (x1 + 1), (rd_T82 y353 x5).f2⟩ : S82) : List (S82))).bind fun y354 => (laws_markGoalS.l0 k (y354.set (x5 : Int).toNat (⟨(rd_T82 y354 x5).f0, (rd_T82 y354 x5).f1, wrap64 ((wrap64 (x1 + 1)) + 1)⟩ : S82)) (wrap64 ((wrap64 ((wrap64 (x1 + 1)) + 1)) + 1)) (wrap64 (x5 + 1))))) else (none))) else (some (x1, x0))
def laws_markGoalS.f (k : Nat) (l0 : List (S82)) (a1 : Int) : Option (Int × (List (S82))) := laws_markGoalS.l0 k l0 a1 0
theorem laws_markGoalS.mono_l : ∀ k, (∀ y0 y1 y2, LeO (laws_markGoalS.l0 k y0 y1 y2) (laws_markGoalS.l0 (k + 1) y0 y1 y2))
 | 0 => fun _ _ _ r h => by simp [laws_markGoalS.l0] at h
 | k + 1 => by
  have ih0 := laws_markGoalS.mono_l k
  intro y0 y1 y2
  unfold laws_markGoalS.l0
  have m0 := @laws_markText.mono
  exact Pst.mo
theorem laws_markGoalS.mono : ∀ a0 a1 k, LeO (laws_markGoalS.f k a0 a1) (laws_markGoalS.f (k + 1) a0 a1) := by
 intro a0 a1 k
 have ih0 := laws_markGoalS.mono_l k
 unfold laws_markGoalS.f
 have m0 := @laws_markText.mono
 exact Pst.mo
theorem laws_markGoalS.calls (k : Nat) (P0_ : Nat → Prop) (u9000_ : Value) (l0 : List (S82)) (a1 : Int) (r1 : Int) (r2 : List (S82)) (w0 w : World) (hB : Below w0.heap.size w0 w) (ho0 : Kd.R k82 82 w w0.heap.size P0_ u9000_ l0) (h : laws_markGoalS.f k l0 a1 = some (r1, r2)) :
 Calls Tryz.prog 35 #[u9000_, .int .i64 a1] w fun e w' => e = .returned (.int .i64 r1) ∧ Kd.R k82 82 w' w0.heap.size (fun k_ => (P0_ k_ ∨ w.heap.size ≤ k_)) u9000_ r2 ∧ Below w0.heap.size w0 w' ∧ Kept w w' (fun k_ => P0_ k_) := by
 have HO0 := Pst.A (show Kd.R k82 82 w w0.heap.size (fun k_ => (P0_ k_ ∨ w.heap.size ≤ k_)) u9000_ l0 from Kd.R_mono ho0 (fun k_ hk => (.inl hk)))
 have HK := Pst.A (Kept.refl w (fun k_ => P0_ k_))
 have HW0 := Pst.A hB.size
 have HB := Pst.A hB
 clear hB
 have H : (laws_markGoalS.l0 k l0 a1 0) = some (r1, r2) := h
 clear h
 have H' := Pst.A H
 clear H
 go_enter Tryz.func35, Tryz.ntmps35
 go_wp2
 go_loopg [1, 5] k (fun kq v1 v5 w' => ∃ (x0_1 : List (S82)) (x1_1 : Int) (x5_1 : Int), v1 = .int .i64 x1_1 ∧ v5 = .int .i64 x5_1 ∧ Aside0 (laws_markGoalS.l0 kq x0_1 x1_1 x5_1 = some (r1, r2)) ∧ Aside0 (kq ≤ k) ∧ Aside0 (Kd.R k82 82 w' w0.heap.size (fun k_ => (P0_ k_ ∨ w.heap.size ≤ k_)) u9000_ x0_1) ∧ Aside0 (Kept w w' (fun k_ => P0_ k_)) ∧ Aside0 (Below w0.heap.size w0 w'))
 case atStart => exact ⟨(l0), (a1), (0), Pst.e2, Pst.e2, H', ⟨Nat.le_refl _⟩, ⟨by (with_reducible repeat (first | apply Kd.R_alloc | apply Kd.R_drewN | apply Kd.R_drew)); exact HO0.out⟩, ⟨by repeat (first | (with_reducible first | exact HK.out | apply Kept.alloc | apply Kept.drewN | apply Kept.drew) | exact HK.out)⟩, ⟨Pst.bel⟩⟩
 clear H'
 try clear p2
 obtain ⟨x0_1, x1_1, x5_1, rfl, rfl, HA, HK1, HO_0, HK, HB⟩ := hrel
 cases gk with
 | zero => exact absurd HA.out (by simp [laws_markGoalS.l0])
 | succ k1 =>
  have H := HA.out
  clear HA
  simp only [laws_markGoalS.l0] at H
  by_cases c3 : x5_1 < (x0_1.length : Int)
  ·rw [if_pos c3] at H
   have c3b0 : decide (x5_1 < (x0_1.length : Int)) = true := decide_eq_true c3
   clear c3
   obtain ⟨t352, A40, H⟩ := Pst.bd H
   have A4 := Pst.A A40
   clear A40
   by_cases c5 : 0 ≤ x5_1
   ·rw [if_pos c5] at H
    have c5b0 : decide (0 ≤ x5_1) = true := decide_eq_true c5
    clear c5
    obtain ⟨y353, hy353⟩ : ∃ y_ : List (S82), y_ = (x0_1.set (x5_1 : Int).toNat (⟨t352, (rd_T82 x0_1 x5_1).f1, (rd_T82 x0_1 x5_1).f2⟩ : S82)) := ⟨_, rfl⟩
    replace H : ((some (y353.set (x5_1 : Int).toNat (⟨(rd_T82 y353 x5_1).f0, wrap64 (x1_1 + 1), (rd_T82 y353 x5_1).f2⟩ : S82) : List (S82))).bind fun y354 => (laws_markGoalS.l0 k1 (y354.set (x5_1 : Int).toNat (⟨(rd_T82 y354 x5_1).f0, (rd_T82 y354 x5_1).f1, wrap64 ((wrap64 (x1_1 + 1)) + 1)⟩ : S82)) (wrap64 ((wrap64 ((wrap64 (x1_1 + 1)) + 1)) + 1)) (wrap64 (x5_1 + 1)))) = some (r1, r2) := by first | (rw [hy353]; with_reducible exact H) | (have H2_ := (Option.bind_some _ _).symm.trans H; rw [hy353]; with_reducible exact H2_) | (have H2_ := (Option.bind_some _ _).symm.trans H; with_reducible exact H2_) | with_reducible exact H | (rw [hy353]; exact H) | exact H
    have Ny353 := Pst.A hy353
    clear hy353
    obtain ⟨y354, hy354⟩ : ∃ y_ : List (S82), y_ = (y353.set (x5_1 : Int).toNat (⟨(rd_T82 y353 x5_1).f0, wrap64 (x1_1 + 1), (rd_T82 y353 x5_1).f2⟩ : S82)) := ⟨_, rfl⟩
    replace H : (laws_markGoalS.l0 k1 (y354.set (x5_1 : Int).toNat (⟨(rd_T82 y354 x5_1).f0, (rd_T82 y354 x5_1).f1, wrap64 ((wrap64 (x1_1 + 1)) + 1)⟩ : S82)) (wrap64 ((wrap64 ((wrap64 (x1_1 + 1)) + 1)) + 1)) (wrap64 (x5_1 + 1))) = some (r1, r2) := by first | (rw [hy354]; with_reducible exact H) | (have H2_ := (Option.bind_some _ _).symm.trans H; rw [hy354]; with_reducible exact H2_) | (have H2_ := (Option.bind_some _ _).symm.trans H; with_reducible exact H2_) | with_reducible exact H | (rw [hy354]; exact H) | exact H
    have Ny354 := Pst.A hy354
    clear hy354
    obtain ⟨y355, hy355⟩ : ∃ y_ : List (S82), y_ = (y354.set (x5_1 : Int).toNat (⟨(rd_T82 y354 x5_1).f0, (rd_T82 y354 x5_1).f1, wrap64 ((wrap64 (x1_1 + 1)) + 1)⟩ : S82)) := ⟨_, rfl⟩
    replace H : (laws_markGoalS.l0 k1 y355 (wrap64 ((wrap64 ((wrap64 (x1_1 + 1)) + 1)) + 1)) (wrap64 (x5_1 + 1))) = some (r1, r2) := by first | (rw [hy355]; with_reducible exact H) | (have H2_ := (Option.bind_some _ _).symm.trans H; rw [hy355]; with_reducible exact H2_) | (have H2_ := (Option.bind_some _ _).symm.trans H; with_reducible exact H2_) | with_reducible exact H | (rw [hy355]; exact H) | exact H
    have Ny355 := Pst.A hy355
    clear hy355
    have H' := Pst.A H
    clear H
    obtain ⟨Ao9, co9, eo9⟩ := Kd.R_slice HO_0.out
    subst eo9
    go_wp2_with (first | ((with_reducible refine gate_callee (f := 63) rfl ?_); refine goesL_ (some 15) rfl rfl Tryz.func63 (by kernel_rfl) rfl #[.int .i64 x1_1] rfl Pst.ga ?_; (with_reducible refine (laws_markText.calls k1 x1_1 t352 _ A4.out).mono ?_); rintro e w10 ⟨rfl, hb⟩; refine ⟨_, rfl, ?_⟩; replace HO_0 := Pst.A (Kd.R_below (Pst.qr HO_0.out) hb); replace HK := Pst.A (Kept.below (S := (fun k_ => P0_ k_)) (by repeat (first | (with_reducible first | exact HK.out | apply Kept.alloc | apply Kept.drewN | apply Kept.drew) | exact HK.out)) hb); replace HB := Pst.A (below_step Pst.bel hb); (try clear hb); (try clear hb2); (try clear hk); (try clear hi); have p6 : 0 ≤ (x5_1 : Int) := Pst.da; have q6 : (x5_1 : Int) < ((x0_1.length : Int) : Int) := Pst.da; obtain ⟨go6, co6, eo6, gb6, gl6, cl6, HG6⟩ := Kd.R_form HO_0.out (by omega); (first | cases eo6 | (injection eo6 with ea_ en_ ec_; (first | subst ea_ | (injection ea_ with ea_; subst ea_)); subst ec_; clear en_)); have GB6 := Pst.A gb6; have GG6 := Pst.A HG6; clear gb6 gl6 HG6; have HMgo6 := Pst.A (show (P0_ go6 ∨ w.heap.size ≤ go6) from (HO_0.out.1 _ rfl)); obtain ⟨ce6, hcl6, hM6, hcc6, hfr6⟩ := Kd.R_elem HO_0.out z82 (x5_1 : Int) p6 q6; obtain rfl := k82_openM hM6; have hx6_0 : w10.cell? ⟨go6, (x5_1 : Int).toNat * 3, none⟩ = some (.string ((rd_T82 x0_1 x5_1).f0)) := hcc6 0 _ rfl; have hx6_1 : w10.cell? ⟨go6, (x5_1 : Int).toNat * 3 + 1, none⟩ = some (.int .i64 ((rd_T82 x0_1 x5_1).f1)) := hcc6 1 _ rfl; have hx6_2 : w10.cell? ⟨go6, (x5_1 : Int).toNat * 3 + 2, none⟩ = some (.int .i64 ((rd_T82 x0_1 x5_1).f2)) := hcc6 2 _ rfl; have hf6_0 : w10.frozen? ⟨go6, (x5_1 : Int).toNat * 3, none⟩ = false := hfr6 0; have hf6_1 : w10.frozen? ⟨go6, (x5_1 : Int).toNat * 3 + 1, none⟩ = false := hfr6 1; have hf6_2 : w10.frozen? ⟨go6, (x5_1 : Int).toNat * 3 + 2, none⟩ = false := hfr6 2; clear hcl6 hcc6 hfr6 hM6; replace p6 := eq_true p6; replace q6 := eq_true q6; have HX11 := Pst.A (show Kd.R k82 82 w10 w0.heap.size (fun k_ => (P0_ k_ ∨ w.heap.size ≤ k_)) (.slice (some ⟨go6, 0, none⟩) x0_1.length co9) x0_1 from (Pst.qr HO_0.out)); obtain ⟨ce11, hcl11, hM11, hcc11, hfr11⟩ := Kd.R_elem HX11.out z82 (x5_1 : Int) (Pst.da) (by have h_ : (x5_1 : Int) < ((x0_1.length : Int) : Int) := Pst.da; first | exact h_ | (have e_ := (Kd.R_reads' HO_0.out).1; omega) | simpa using h_); obtain rfl := k82_openM hM11; have HP11 := Kd.R_seg HX11.out (x5_1 : Int) (Pst.da) (by have h_ : (x5_1 : Int) < ((x0_1.length : Int) : Int) := Pst.da; first | exact h_ | (have e_ := (Kd.R_reads' HO_0.out).1; omega) | simpa using h_) (seg := [.string t352]) (j := 0) hcl11 hcc11 (show 1 ≤ 3 from by decide) (x' := (⟨t352, (rd_T82 x0_1 x5_1).f1, (rd_T82 x0_1 x5_1).f2⟩ : S82)) (k82_mkM _ _ _ (⟨t352, (rd_T82 x0_1 x5_1).f1, (rd_T82 x0_1 x5_1).f2⟩ : S82) ) (fun _ hk => hk); have hx11_0 := hcc11 0 _ rfl; (try simp only [show (k82).sz = 3 from rfl, Nat.mul_one, Nat.add_zero] at hx11_0); have hf11_0 := hfr11 0; (try simp only [show (k82).sz = 3 from rfl, Nat.mul_one, Nat.add_zero] at hf11_0); clear hcl11 hcc11 hfr11 hM11) | ((with_reducible refine gate_store (t := 9) (p := 17) rfl ?_); refine store_event (t := 9) (p := 17) (v := ?vo_w12) (w1 := (w10.setCell ⟨go6, (x5_1 : Int).toNat * 3, none⟩ (.string t352))) ?hg ?ho ?hn ?hr ?_; (case ho => rfl); (case hg => rfl); (case hn => rfl); (case hr => exact Pst.gr); intro w12 hw; have hg : w10.grownBy w12 (some go6) := (by rw [hw]; exact HP11.2); have hp_ : Kd.R k82 82 w12 w0.heap.size (fun k_ => (P0_ k_ ∨ w.heap.size ≤ k_)) (.slice (some ⟨go6, 0, none⟩) x0_1.length co9) y353 := (by rw [hw, Ny353.out]; exact HP11.1); clear HP11; replace HK := Pst.A (Kept.of_grown (S := (fun k_ => P0_ k_)) hg (by repeat (first | (with_reducible first | exact HK.out | apply Kept.alloc | apply Kept.drewN | apply Kept.drew) | exact HK.out)) (fun k_ e_ => (HO_0.out.1 k_ e_))); replace HO_0 := Pst.A hp_; replace HB := Pst.A ((by rw [hw]; exact below_set (HB.out) GB6.out : Below w0.heap.size w0 w12)); clear hg hw hp_; have p7 : 0 ≤ (x5_1 : Int) := Pst.da; have q7 : (x5_1 : Int) < ((x0_1.length : Int) : Int) := Pst.da; obtain ⟨ce7, hcl7, hM7, hcc7, hfr7⟩ := Kd.R_elem HO_0.out z82 (x5_1 : Int) p7 q7; obtain rfl := k82_openM hM7; have hx7_0 : w12.cell? ⟨go6, (x5_1 : Int).toNat * 3, none⟩ = some (.string ((rd_T82 y353 x5_1).f0)) := hcc7 0 _ rfl; have hx7_1 : w12.cell? ⟨go6, (x5_1 : Int).toNat * 3 + 1, none⟩ = some (.int .i64 ((rd_T82 y353 x5_1).f1)) := hcc7 1 _ rfl; have hx7_2 : w12.cell? ⟨go6, (x5_1 : Int).toNat * 3 + 2, none⟩ = some (.int .i64 ((rd_T82 y353 x5_1).f2)) := hcc7 2 _ rfl; have hf7_0 : w12.frozen? ⟨go6, (x5_1 : Int).toNat * 3, none⟩ = false := hfr7 0; have hf7_1 : w12.frozen? ⟨go6, (x5_1 : Int).toNat * 3 + 1, none⟩ = false := hfr7 1; have hf7_2 : w12.frozen? ⟨go6, (x5_1 : Int).toNat * 3 + 2, none⟩ = false := hfr7 2; clear hcl7 hcc7 hfr7 hM7; replace p7 := eq_true p7; replace q7 := eq_true q7; have HX13 := Pst.A (show Kd.R k82 82 w12 w0.heap.size (fun k_ => (P0_ k_ ∨ w.heap.size ≤ k_)) (.slice (some ⟨go6, 0, none⟩) x0_1.length co9) y353 from (Pst.qr HO_0.out)); obtain ⟨ce13, hcl13, hM13, hcc13, hfr13⟩ := Kd.R_elem HX13.out z82 (x5_1 : Int) (Pst.da) (by have h_ : (x5_1 : Int) < ((x0_1.length : Int) : Int) := Pst.da; first | exact h_ | (have e_ := (Kd.R_reads' HO_0.out).1; omega) | simpa using h_); obtain rfl := k82_openM hM13; have HP13 := Kd.R_seg HX13.out (x5_1 : Int) (Pst.da) (by have h_ : (x5_1 : Int) < ((x0_1.length : Int) : Int) := Pst.da; first | exact h_ | (have e_ := (Kd.R_reads' HO_0.out).1; omega) | simpa using h_) (seg := [.int .i64 (wrap64 (x1_1 + 1))]) (j := 1) hcl13 hcc13 (show 2 ≤ 3 from by decide) (x' := (⟨(rd_T82 y353 x5_1).f0, wrap64 (x1_1 + 1), (rd_T82 y353 x5_1).f2⟩ : S82)) (k82_mkM _ _ _ (⟨(rd_T82 y353 x5_1).f0, wrap64 (x1_1 + 1), (rd_T82 y353 x5_1).f2⟩ : S82) ) (fun _ hk => hk); have hx13_1 := hcc13 1 _ rfl; (try simp only [show (k82).sz = 3 from rfl, Nat.mul_one, Nat.add_zero] at hx13_1); have hf13_1 := hfr13 1; (try simp only [show (k82).sz = 3 from rfl, Nat.mul_one, Nat.add_zero] at hf13_1); clear hcl13 hcc13 hfr13 hM13) | ((with_reducible refine gate_store (t := 3) (p := 24) rfl ?_); refine store_event (t := 3) (p := 24) (v := ?vo_w14) (w1 := (w12.setCell ⟨go6, (x5_1 : Int).toNat * 3 + 1, none⟩ (.int .i64 (wrap64 (x1_1 + 1))))) ?hg ?ho ?hn ?hr ?_; (case ho => rfl); (case hg => rfl); (case hn => rfl); (case hr => exact Pst.gr); intro w14 hw; have hg : w12.grownBy w14 (some go6) := (by rw [hw]; exact HP13.2); have hp_ : Kd.R k82 82 w14 w0.heap.size (fun k_ => (P0_ k_ ∨ w.heap.size ≤ k_)) (.slice (some ⟨go6, 0, none⟩) x0_1.length co9) y354 := (by rw [hw, Ny354.out]; exact HP13.1); clear HP13; replace HK := Pst.A (Kept.of_grown (S := (fun k_ => P0_ k_)) hg (by repeat (first | (with_reducible first | exact HK.out | apply Kept.alloc | apply Kept.drewN | apply Kept.drew) | exact HK.out)) (fun k_ e_ => (HO_0.out.1 k_ e_))); replace HO_0 := Pst.A hp_; replace HB := Pst.A ((by rw [hw]; exact below_set (HB.out) GB6.out : Below w0.heap.size w0 w14)); clear hg hw hp_; have p8 : 0 ≤ (x5_1 : Int) := Pst.da; have q8 : (x5_1 : Int) < ((x0_1.length : Int) : Int) := Pst.da; obtain ⟨ce8, hcl8, hM8, hcc8, hfr8⟩ := Kd.R_elem HO_0.out z82 (x5_1 : Int) p8 q8; obtain rfl := k82_openM hM8; have hx8_0 : w14.cell? ⟨go6, (x5_1 : Int).toNat * 3, none⟩ = some (.string ((rd_T82 y354 x5_1).f0)) := hcc8 0 _ rfl; have hx8_1 : w14.cell? ⟨go6, (x5_1 : Int).toNat * 3 + 1, none⟩ = some (.int .i64 ((rd_T82 y354 x5_1).f1)) := hcc8 1 _ rfl; have hx8_2 : w14.cell? ⟨go6, (x5_1 : Int).toNat * 3 + 2, none⟩ = some (.int .i64 ((rd_T82 y354 x5_1).f2)) := hcc8 2 _ rfl; have hf8_0 : w14.frozen? ⟨go6, (x5_1 : Int).toNat * 3, none⟩ = false := hfr8 0; have hf8_1 : w14.frozen? ⟨go6, (x5_1 : Int).toNat * 3 + 1, none⟩ = false := hfr8 1; have hf8_2 : w14.frozen? ⟨go6, (x5_1 : Int).toNat * 3 + 2, none⟩ = false := hfr8 2; clear hcl8 hcc8 hfr8 hM8; replace p8 := eq_true p8; replace q8 := eq_true q8; have HX15 := Pst.A (show Kd.R k82 82 w14 w0.heap.size (fun k_ => (P0_ k_ ∨ w.heap.size ≤ k_)) (.slice (some ⟨go6, 0, none⟩) x0_1.length co9) y354 from (Pst.qr HO_0.out)); obtain ⟨ce15, hcl15, hM15, hcc15, hfr15⟩ := Kd.R_elem HX15.out z82 (x5_1 : Int) (Pst.da) (by have h_ : (x5_1 : Int) < ((x0_1.length : Int) : Int) := Pst.da; first | exact h_ | (have e_ := (Kd.R_reads' HO_0.out).1; omega) | simpa using h_); obtain rfl := k82_openM hM15; have HP15 := Kd.R_seg HX15.out (x5_1 : Int) (Pst.da) (by have h_ : (x5_1 : Int) < ((x0_1.length : Int) : Int) := Pst.da; first | exact h_ | (have e_ := (Kd.R_reads' HO_0.out).1; omega) | simpa using h_) (seg := [.int .i64 (wrap64 ((wrap64 (x1_1 + 1)) + 1))]) (j := 2) hcl15 hcc15 (show 3 ≤ 3 from by decide) (x' := (⟨(rd_T82 y354 x5_1).f0, (rd_T82 y354 x5_1).f1, wrap64 ((wrap64 (x1_1 + 1)) + 1)⟩ : S82)) (k82_mkM _ _ _ (⟨(rd_T82 y354 x5_1).f0, (rd_T82 y354 x5_1).f1, wrap64 ((wrap64 (x1_1 + 1)) + 1)⟩ : S82) ) (fun _ hk => hk); have hx15_2 := hcc15 2 _ rfl; (try simp only [show (k82).sz = 3 from rfl, Nat.mul_one, Nat.add_zero] at hx15_2); have hf15_2 := hfr15 2; (try simp only [show (k82).sz = 3 from rfl, Nat.mul_one, Nat.add_zero] at hf15_2); clear hcl15 hcc15 hfr15 hM15) | ((with_reducible refine gate_store (t := 3) (p := 31) rfl ?_); refine store_event (t := 3) (p := 31) (v := ?vo_w16) (w1 := (w14.setCell ⟨go6, (x5_1 : Int).toNat * 3 + 2, none⟩ (.int .i64 (wrap64 ((wrap64 (x1_1 + 1)) + 1))))) ?hg ?ho ?hn ?hr ?_; (case ho => rfl); (case hg => rfl); (case hn => rfl); (case hr => exact Pst.gr); intro w16 hw; have hg : w14.grownBy w16 (some go6) := (by rw [hw]; exact HP15.2); have hp_ : Kd.R k82 82 w16 w0.heap.size (fun k_ => (P0_ k_ ∨ w.heap.size ≤ k_)) (.slice (some ⟨go6, 0, none⟩) x0_1.length co9) y355 := (by rw [hw, Ny355.out]; exact HP15.1); clear HP15; replace HK := Pst.A (Kept.of_grown (S := (fun k_ => P0_ k_)) hg (by repeat (first | (with_reducible first | exact HK.out | apply Kept.alloc | apply Kept.drewN | apply Kept.drew) | exact HK.out)) (fun k_ e_ => (HO_0.out.1 k_ e_))); replace HO_0 := Pst.A hp_; replace HB := Pst.A ((by rw [hw]; exact below_set (HB.out) GB6.out : Below w0.heap.size w0 w16)); clear hg hw hp_))
    go_roundg k1
    case measure => have := HK1.out; omega
    case rel => exact ⟨(y355), (wrap64 ((wrap64 ((wrap64 (x1_1 + 1)) + 1)) + 1)), (wrap64 (x5_1 + 1)), Pst.e2, Pst.e2, H', ⟨by have := HK1.out; omega⟩, ⟨by (with_reducible repeat (first | apply Kd.R_alloc | apply Kd.R_drewN | apply Kd.R_drew)); exact HO_0.out⟩, ⟨by repeat (first | (with_reducible first | exact HK.out | apply Kept.alloc | apply Kept.drewN | apply Kept.drew) | exact HK.out)⟩, ⟨Pst.bel⟩⟩
   rw [if_neg c5] at H
   exact absurd H (by simp)
  rw [if_neg c3] at H
  have c3b0 : decide (x5_1 < (x0_1.length : Int)) = false := decide_eq_false c3
  clear c3
  simp only [Option.some.injEq, Prod.mk.injEq] at H
  obtain ⟨rfl, rfl⟩ := H
  obtain ⟨Ao17, co17, eo17⟩ := Kd.R_slice HO_0.out
  subst eo17
  go_wp2
  go_ret
  exact ⟨Pst.e1, by (with_reducible repeat (first | apply Kd.R_alloc | apply Kd.R_drewN | apply Kd.R_drew)); exact HO_0.out, Pst.bel, by repeat (first | (with_reducible first | exact HK.out | apply Kept.alloc | apply Kept.drewN | apply Kept.drew) | exact HK.out)⟩
theorem laws_markGoalS.l0.st {x0 : List (S82)} {x1 : Int} {x5 : Int} {r : (Int × (List (S82)))} (H : Ev (fun k => if x5 < (x0.length : Int) then ((laws_markText.f k x1).bind fun t352 => (if 0 ≤ x5 then ((some (x0.set (x5 : Int).toNat (⟨t352, (rd_T82 x0 x5).f1, (rd_T82 x0 x5).f2⟩ : S82) : List (S82))).bind fun y353 => ((some (y353.set (x5 : Int).toNat (⟨(rd_T82 y353 x5).f0, wrap64 (x1 + 1), (rd_T82 y353 x5).f2⟩ : S82) : List (S82))).bind fun y354 => (laws_markGoalS.l0 k (y354.set (x5 : Int).toNat (⟨(rd_T82 y354 x5).f0, (rd_T82 y354 x5).f1, wrap64 ((wrap64 (x1 + 1)) + 1)⟩ : S82)) (wrap64 ((wrap64 ((wrap64 (x1 + 1)) + 1)) + 1)) (wrap64 (x5 + 1))))) else (none))) else (some (x1, x0))) r) : Ev (fun k => laws_markGoalS.l0 k x0 x1 x5) r := Ev.step (fun k => laws_markGoalS.l0.eq_2 x0 x1 x5 k) H

/-! ### laws_markPolicyS: function 91 -/
def laws_markPolicyS.l0 : Nat → List (S102) → Int → Int → Option (Int × (List (S102)))
 | 0, _, _, _ => none
 | k + 1, x0, x1, x5 => if x5 < (x0.length : Int) then (if 0 ≤ x5 then ((some (x0.set (x5 : Int).toNat (⟨x1, (rd_T102 x0 x5).f1, (rd_T102 x0 x5).f2⟩ : S102) : List (S102))).bind fun y356 => ((some (y356.set (x5 : Int).toNat (⟨(rd_T102 y356 x5).f0, wrap64 (x1 + 1), (rd_T102 y356 x5).f2⟩ : S102) : List (S102))).bind fun y357 => (laws_markPolicyS.l0 k (y357.set (x5 : Int).toNat (⟨(rd_T102 y357 x5).f0, (rd_T102 y357 x5).f1, wrap64 ((wrap64 (x1 + 1)) + 1)⟩ : S102)) (wrap64 ((wrap64 ((wrap64 (x1 + 1)) + 1)) + 1)) (wrap64 (x5 + 1))))) else (none)) else (some (x1, x0))
def laws_markPolicyS.f (k : Nat) (l0 : List (S102)) (a1 : Int) : Option (Int × (List (S102))) := laws_markPolicyS.l0 k l0 a1 0
theorem laws_markPolicyS.mono_l : ∀ k, (∀ y0 y1 y2, LeO (laws_markPolicyS.l0 k y0 y1 y2) (laws_markPolicyS.l0 (k + 1) y0 y1 y2))
 | 0 => fun _ _ _ r h => by simp [laws_markPolicyS.l0] at h
 | k + 1 => by
  have ih0 := laws_markPolicyS.mono_l k
  intro y0 y1 y2
  unfold laws_markPolicyS.l0
  exact Pst.mo
theorem laws_markPolicyS.mono : ∀ a0 a1 k, LeO (laws_markPolicyS.f k a0 a1) (laws_markPolicyS.f (k + 1) a0 a1) := by
 intro a0 a1 k
 have ih0 := laws_markPolicyS.mono_l k
 unfold laws_markPolicyS.f
 exact Pst.mo
theorem laws_markPolicyS.calls (k : Nat) (P0_ : Nat → Prop) (u9000_ : Value) (l0 : List (S102)) (a1 : Int) (r1 : Int) (r2 : List (S102)) (w0 w : World) (hB : Below w0.heap.size w0 w) (ho0 : Kd.R k102 102 w w0.heap.size P0_ u9000_ l0) (h : laws_markPolicyS.f k l0 a1 = some (r1, r2)) :
 Calls Tryz.prog 91 #[u9000_, .int .i64 a1] w fun e w' => e = .returned (.int .i64 r1) ∧ Kd.R k102 102 w' w0.heap.size (fun k_ => (P0_ k_ ∨ w.heap.size ≤ k_)) u9000_ r2 ∧ Below w0.heap.size w0 w' ∧ Kept w w' (fun k_ => P0_ k_) := by
 have HO0 := Pst.A (show Kd.R k102 102 w w0.heap.size (fun k_ => (P0_ k_ ∨ w.heap.size ≤ k_)) u9000_ l0 from Kd.R_mono ho0 (fun k_ hk => (.inl hk)))
 have HK := Pst.A (Kept.refl w (fun k_ => P0_ k_))
 have HW0 := Pst.A hB.size
 have HB := Pst.A hB
 clear hB
 have H : (laws_markPolicyS.l0 k l0 a1 0) = some (r1, r2) := h
 clear h
 have H' := Pst.A H
 clear H
 go_enter Tryz.func91, Tryz.ntmps91
 go_wp2
 go_loopg [1, 5] k (fun kq v1 v5 w' => ∃ (x0_1 : List (S102)) (x1_1 : Int) (x5_1 : Int), v1 = .int .i64 x1_1 ∧ v5 = .int .i64 x5_1 ∧ Aside0 (laws_markPolicyS.l0 kq x0_1 x1_1 x5_1 = some (r1, r2)) ∧ Aside0 (kq ≤ k) ∧ Aside0 (Kd.R k102 102 w' w0.heap.size (fun k_ => (P0_ k_ ∨ w.heap.size ≤ k_)) u9000_ x0_1) ∧ Aside0 (Kept w w' (fun k_ => P0_ k_)) ∧ Aside0 (Below w0.heap.size w0 w'))
 case atStart => exact ⟨(l0), (a1), (0), Pst.e2, Pst.e2, H', ⟨Nat.le_refl _⟩, ⟨by (with_reducible repeat (first | apply Kd.R_alloc | apply Kd.R_drewN | apply Kd.R_drew)); exact HO0.out⟩, ⟨by repeat (first | (with_reducible first | exact HK.out | apply Kept.alloc | apply Kept.drewN | apply Kept.drew) | exact HK.out)⟩, ⟨Pst.bel⟩⟩
 clear H'
 try clear p2
 obtain ⟨x0_1, x1_1, x5_1, rfl, rfl, HA, HK1, HO_0, HK, HB⟩ := hrel
 cases gk with
 | zero => exact absurd HA.out (by simp [laws_markPolicyS.l0])
 | succ k1 =>
  have H := HA.out
  clear HA
  simp only [laws_markPolicyS.l0] at H
  by_cases c3 : x5_1 < (x0_1.length : Int)
  ·rw [if_pos c3] at H
   have c3b0 : decide (x5_1 < (x0_1.length : Int)) = true := decide_eq_true c3
   clear c3
   by_cases c4 : 0 ≤ x5_1
   ·rw [if_pos c4] at H
    have c4b0 : decide (0 ≤ x5_1) = true := decide_eq_true c4
    clear c4
    obtain ⟨y356, hy356⟩ : ∃ y_ : List (S102), y_ = (x0_1.set (x5_1 : Int).toNat (⟨x1_1, (rd_T102 x0_1 x5_1).f1, (rd_T102 x0_1 x5_1).f2⟩ : S102)) := ⟨_, rfl⟩
    replace H : ((some (y356.set (x5_1 : Int).toNat (⟨(rd_T102 y356 x5_1).f0, wrap64 (x1_1 + 1), (rd_T102 y356 x5_1).f2⟩ : S102) : List (S102))).bind fun y357 => (laws_markPolicyS.l0 k1 (y357.set (x5_1 : Int).toNat (⟨(rd_T102 y357 x5_1).f0, (rd_T102 y357 x5_1).f1, wrap64 ((wrap64 (x1_1 + 1)) + 1)⟩ : S102)) (wrap64 ((wrap64 ((wrap64 (x1_1 + 1)) + 1)) + 1)) (wrap64 (x5_1 + 1)))) = some (r1, r2) := by first | (rw [hy356]; with_reducible exact H) | (have H2_ := (Option.bind_some _ _).symm.trans H; rw [hy356]; with_reducible exact H2_) | (have H2_ := (Option.bind_some _ _).symm.trans H; with_reducible exact H2_) | with_reducible exact H | (rw [hy356]; exact H) | exact H
    have Ny356 := Pst.A hy356
    clear hy356
    obtain ⟨y357, hy357⟩ : ∃ y_ : List (S102), y_ = (y356.set (x5_1 : Int).toNat (⟨(rd_T102 y356 x5_1).f0, wrap64 (x1_1 + 1), (rd_T102 y356 x5_1).f2⟩ : S102)) := ⟨_, rfl⟩
    replace H : (laws_markPolicyS.l0 k1 (y357.set (x5_1 : Int).toNat (⟨(rd_T102 y357 x5_1).f0, (rd_T102 y357 x5_1).f1, wrap64 ((wrap64 (x1_1 + 1)) + 1)⟩ : S102)) (wrap64 ((wrap64 ((wrap64 (x1_1 + 1)) + 1)) + 1)) (wrap64 (x5_1 + 1))) = some (r1, r2) := by first | (rw [hy357]; with_reducible exact H) | (have H2_ := (Option.bind_some _ _).symm.trans H; rw [hy357]; with_reducible exact H2_) | (have H2_ := (Option.bind_some _ _).symm.trans H; with_reducible exact H2_) | with_reducible exact H | (rw [hy357]; exact H) | exact H
    have Ny357 := Pst.A hy357
    clear hy357
    obtain ⟨y358, hy358⟩ : ∃ y_ : List (S102), y_ = (y357.set (x5_1 : Int).toNat (⟨(rd_T102 y357 x5_1).f0, (rd_T102 y357 x5_1).f1, wrap64 ((wrap64 (x1_1 + 1)) + 1)⟩ : S102)) := ⟨_, rfl⟩
    replace H : (laws_markPolicyS.l0 k1 y358 (wrap64 ((wrap64 ((wrap64 (x1_1 + 1)) + 1)) + 1)) (wrap64 (x5_1 + 1))) = some (r1, r2) := by first | (rw [hy358]; with_reducible exact H) | (have H2_ := (Option.bind_some _ _).symm.trans H; rw [hy358]; with_reducible exact H2_) | (have H2_ := (Option.bind_some _ _).symm.trans H; with_reducible exact H2_) | with_reducible exact H | (rw [hy358]; exact H) | exact H
    have Ny358 := Pst.A hy358
    clear hy358
    have H' := Pst.A H
    clear H
    obtain ⟨Ao8, co8, eo8⟩ := Kd.R_slice HO_0.out
    subst eo8
    have p5 : 0 ≤ (x5_1 : Int) := Pst.da
    have q5 : (x5_1 : Int) < ((x0_1.length : Int) : Int) := Pst.da
    obtain ⟨go5, co5, eo5, gb5, gl5, cl5, HG5⟩ := Kd.R_form HO_0.out (by omega)
    (first | cases eo5 | (injection eo5 with ea_ en_ ec_; (first | subst ea_ | (injection ea_ with ea_; subst ea_)); subst ec_; clear en_))
    have GB5 := Pst.A gb5
    have GG5 := Pst.A HG5
    clear gb5 gl5 HG5
    have HMgo5 := Pst.A (show (P0_ go5 ∨ w.heap.size ≤ go5) from (HO_0.out.1 _ rfl))
    obtain ⟨ce5, hcl5, hM5, hcc5, hfr5⟩ := Kd.R_elem HO_0.out z102 (x5_1 : Int) p5 q5
    obtain rfl := k102_openM hM5
    have hx5_0 : wr.cell? ⟨go5, (x5_1 : Int).toNat * 3, none⟩ = some (.int .i64 ((rd_T102 x0_1 x5_1).f0)) := hcc5 0 _ rfl
    have hx5_1 : wr.cell? ⟨go5, (x5_1 : Int).toNat * 3 + 1, none⟩ = some (.int .i64 ((rd_T102 x0_1 x5_1).f1)) := hcc5 1 _ rfl
    have hx5_2 : wr.cell? ⟨go5, (x5_1 : Int).toNat * 3 + 2, none⟩ = some (.int .i64 ((rd_T102 x0_1 x5_1).f2)) := hcc5 2 _ rfl
    have hf5_0 : wr.frozen? ⟨go5, (x5_1 : Int).toNat * 3, none⟩ = false := hfr5 0
    have hf5_1 : wr.frozen? ⟨go5, (x5_1 : Int).toNat * 3 + 1, none⟩ = false := hfr5 1
    have hf5_2 : wr.frozen? ⟨go5, (x5_1 : Int).toNat * 3 + 2, none⟩ = false := hfr5 2
    clear hcl5 hcc5 hfr5 hM5
    replace p5 := eq_true p5
    replace q5 := eq_true q5
    have HX9 := Pst.A (show Kd.R k102 102 wr w0.heap.size (fun k_ => (P0_ k_ ∨ w.heap.size ≤ k_)) (.slice (some ⟨go5, 0, none⟩) x0_1.length co8) x0_1 from (Pst.qr HO_0.out))
    obtain ⟨ce9, hcl9, hM9, hcc9, hfr9⟩ := Kd.R_elem HX9.out z102 (x5_1 : Int) (Pst.da) (by have h_ : (x5_1 : Int) < ((x0_1.length : Int) : Int) := Pst.da; first | exact h_ | (have e_ := (Kd.R_reads' HO_0.out).1; omega) | simpa using h_)
    obtain rfl := k102_openM hM9
    have HP9 := Kd.R_seg HX9.out (x5_1 : Int) (Pst.da) (by have h_ : (x5_1 : Int) < ((x0_1.length : Int) : Int) := Pst.da; first | exact h_ | (have e_ := (Kd.R_reads' HO_0.out).1; omega) | simpa using h_) (seg := [.int .i64 x1_1]) (j := 0) hcl9 hcc9 (show 1 ≤ 3 from by decide) (x' := (⟨x1_1, (rd_T102 x0_1 x5_1).f1, (rd_T102 x0_1 x5_1).f2⟩ : S102)) (k102_mkM _ _ _ (⟨x1_1, (rd_T102 x0_1 x5_1).f1, (rd_T102 x0_1 x5_1).f2⟩ : S102) ) (fun _ hk => hk)
    have hx9_0 := hcc9 0 _ rfl
    (try simp only [show (k102).sz = 3 from rfl, Nat.mul_one, Nat.add_zero] at hx9_0)
    have hf9_0 := hfr9 0
    (try simp only [show (k102).sz = 3 from rfl, Nat.mul_one, Nat.add_zero] at hf9_0)
    clear hcl9 hcc9 hfr9 hM9
    go_wp2_with (first | ((with_reducible refine gate_store (t := 3) (p := 16) rfl ?_); refine store_event (t := 3) (p := 16) (v := ?vo_w10) (w1 := (wr.setCell ⟨go5, (x5_1 : Int).toNat * 3, none⟩ (.int .i64 x1_1))) ?hg ?ho ?hn ?hr ?_; (case ho => rfl); (case hg => rfl); (case hn => rfl); (case hr => exact Pst.gr); intro w10 hw; have hg : wr.grownBy w10 (some go5) := (by rw [hw]; exact HP9.2); have hp_ : Kd.R k102 102 w10 w0.heap.size (fun k_ => (P0_ k_ ∨ w.heap.size ≤ k_)) (.slice (some ⟨go5, 0, none⟩) x0_1.length co8) y356 := (by rw [hw, Ny356.out]; exact HP9.1); clear HP9; replace HK := Pst.A (Kept.of_grown (S := (fun k_ => P0_ k_)) hg (by repeat (first | (with_reducible first | exact HK.out | apply Kept.alloc | apply Kept.drewN | apply Kept.drew) | exact HK.out)) (fun k_ e_ => (HO_0.out.1 k_ e_))); replace HO_0 := Pst.A hp_; replace HB := Pst.A ((by rw [hw]; exact below_set (HB.out) GB5.out : Below w0.heap.size w0 w10)); clear hg hw hp_; have p6 : 0 ≤ (x5_1 : Int) := Pst.da; have q6 : (x5_1 : Int) < ((x0_1.length : Int) : Int) := Pst.da; obtain ⟨ce6, hcl6, hM6, hcc6, hfr6⟩ := Kd.R_elem HO_0.out z102 (x5_1 : Int) p6 q6; obtain rfl := k102_openM hM6; have hx6_0 : w10.cell? ⟨go5, (x5_1 : Int).toNat * 3, none⟩ = some (.int .i64 ((rd_T102 y356 x5_1).f0)) := hcc6 0 _ rfl; have hx6_1 : w10.cell? ⟨go5, (x5_1 : Int).toNat * 3 + 1, none⟩ = some (.int .i64 ((rd_T102 y356 x5_1).f1)) := hcc6 1 _ rfl; have hx6_2 : w10.cell? ⟨go5, (x5_1 : Int).toNat * 3 + 2, none⟩ = some (.int .i64 ((rd_T102 y356 x5_1).f2)) := hcc6 2 _ rfl; have hf6_0 : w10.frozen? ⟨go5, (x5_1 : Int).toNat * 3, none⟩ = false := hfr6 0; have hf6_1 : w10.frozen? ⟨go5, (x5_1 : Int).toNat * 3 + 1, none⟩ = false := hfr6 1; have hf6_2 : w10.frozen? ⟨go5, (x5_1 : Int).toNat * 3 + 2, none⟩ = false := hfr6 2; clear hcl6 hcc6 hfr6 hM6; replace p6 := eq_true p6; replace q6 := eq_true q6; have HX11 := Pst.A (show Kd.R k102 102 w10 w0.heap.size (fun k_ => (P0_ k_ ∨ w.heap.size ≤ k_)) (.slice (some ⟨go5, 0, none⟩) x0_1.length co8) y356 from (Pst.qr HO_0.out)); obtain ⟨ce11, hcl11, hM11, hcc11, hfr11⟩ := Kd.R_elem HX11.out z102 (x5_1 : Int) (Pst.da) (by have h_ : (x5_1 : Int) < ((x0_1.length : Int) : Int) := Pst.da; first | exact h_ | (have e_ := (Kd.R_reads' HO_0.out).1; omega) | simpa using h_); obtain rfl := k102_openM hM11; have HP11 := Kd.R_seg HX11.out (x5_1 : Int) (Pst.da) (by have h_ : (x5_1 : Int) < ((x0_1.length : Int) : Int) := Pst.da; first | exact h_ | (have e_ := (Kd.R_reads' HO_0.out).1; omega) | simpa using h_) (seg := [.int .i64 (wrap64 (x1_1 + 1))]) (j := 1) hcl11 hcc11 (show 2 ≤ 3 from by decide) (x' := (⟨(rd_T102 y356 x5_1).f0, wrap64 (x1_1 + 1), (rd_T102 y356 x5_1).f2⟩ : S102)) (k102_mkM _ _ _ (⟨(rd_T102 y356 x5_1).f0, wrap64 (x1_1 + 1), (rd_T102 y356 x5_1).f2⟩ : S102) ) (fun _ hk => hk); have hx11_1 := hcc11 1 _ rfl; (try simp only [show (k102).sz = 3 from rfl, Nat.mul_one, Nat.add_zero] at hx11_1); have hf11_1 := hfr11 1; (try simp only [show (k102).sz = 3 from rfl, Nat.mul_one, Nat.add_zero] at hf11_1); clear hcl11 hcc11 hfr11 hM11) | ((with_reducible refine gate_store (t := 3) (p := 23) rfl ?_); refine store_event (t := 3) (p := 23) (v := ?vo_w12) (w1 := (w10.setCell ⟨go5, (x5_1 : Int).toNat * 3 + 1, none⟩ (.int .i64 (wrap64 (x1_1 + 1))))) ?hg ?ho ?hn ?hr ?_; (case ho => rfl); (case hg => rfl); (case hn => rfl); (case hr => exact Pst.gr); intro w12 hw; have hg : w10.grownBy w12 (some go5) := (by rw [hw]; exact HP11.2); have hp_ : Kd.R k102 102 w12 w0.heap.size (fun k_ => (P0_ k_ ∨ w.heap.size ≤ k_)) (.slice (some ⟨go5, 0, none⟩) x0_1.length co8) y357 := (by rw [hw, Ny357.out]; exact HP11.1); clear HP11; replace HK := Pst.A (Kept.of_grown (S := (fun k_ => P0_ k_)) hg (by repeat (first | (with_reducible first | exact HK.out | apply Kept.alloc | apply Kept.drewN | apply Kept.drew) | exact HK.out)) (fun k_ e_ => (HO_0.out.1 k_ e_))); replace HO_0 := Pst.A hp_; replace HB := Pst.A ((by rw [hw]; exact below_set (HB.out) GB5.out : Below w0.heap.size w0 w12)); clear hg hw hp_; have p7 : 0 ≤ (x5_1 : Int) := Pst.da; have q7 : (x5_1 : Int) < ((x0_1.length : Int) : Int) := Pst.da; obtain ⟨ce7, hcl7, hM7, hcc7, hfr7⟩ := Kd.R_elem HO_0.out z102 (x5_1 : Int) p7 q7; obtain rfl := k102_openM hM7; have hx7_0 : w12.cell? ⟨go5, (x5_1 : Int).toNat * 3, none⟩ = some (.int .i64 ((rd_T102 y357 x5_1).f0)) := hcc7 0 _ rfl; have hx7_1 : w12.cell? ⟨go5, (x5_1 : Int).toNat * 3 + 1, none⟩ = some (.int .i64 ((rd_T102 y357 x5_1).f1)) := hcc7 1 _ rfl; have hx7_2 : w12.cell? ⟨go5, (x5_1 : Int).toNat * 3 + 2, none⟩ = some (.int .i64 ((rd_T102 y357 x5_1).f2)) := hcc7 2 _ rfl; have hf7_0 : w12.frozen? ⟨go5, (x5_1 : Int).toNat * 3, none⟩ = false := hfr7 0; have hf7_1 : w12.frozen? ⟨go5, (x5_1 : Int).toNat * 3 + 1, none⟩ = false := hfr7 1; have hf7_2 : w12.frozen? ⟨go5, (x5_1 : Int).toNat * 3 + 2, none⟩ = false := hfr7 2; clear hcl7 hcc7 hfr7 hM7; replace p7 := eq_true p7; replace q7 := eq_true q7; have HX13 := Pst.A (show Kd.R k102 102 w12 w0.heap.size (fun k_ => (P0_ k_ ∨ w.heap.size ≤ k_)) (.slice (some ⟨go5, 0, none⟩) x0_1.length co8) y357 from (Pst.qr HO_0.out)); obtain ⟨ce13, hcl13, hM13, hcc13, hfr13⟩ := Kd.R_elem HX13.out z102 (x5_1 : Int) (Pst.da) (by have h_ : (x5_1 : Int) < ((x0_1.length : Int) : Int) := Pst.da; first | exact h_ | (have e_ := (Kd.R_reads' HO_0.out).1; omega) | simpa using h_); obtain rfl := k102_openM hM13; have HP13 := Kd.R_seg HX13.out (x5_1 : Int) (Pst.da) (by have h_ : (x5_1 : Int) < ((x0_1.length : Int) : Int) := Pst.da; first | exact h_ | (have e_ := (Kd.R_reads' HO_0.out).1; omega) | simpa using h_) (seg := [.int .i64 (wrap64 ((wrap64 (x1_1 + 1)) + 1))]) (j := 2) hcl13 hcc13 (show 3 ≤ 3 from by decide) (x' := (⟨(rd_T102 y357 x5_1).f0, (rd_T102 y357 x5_1).f1, wrap64 ((wrap64 (x1_1 + 1)) + 1)⟩ : S102)) (k102_mkM _ _ _ (⟨(rd_T102 y357 x5_1).f0, (rd_T102 y357 x5_1).f1, wrap64 ((wrap64 (x1_1 + 1)) + 1)⟩ : S102) ) (fun _ hk => hk); have hx13_2 := hcc13 2 _ rfl; (try simp only [show (k102).sz = 3 from rfl, Nat.mul_one, Nat.add_zero] at hx13_2); have hf13_2 := hfr13 2; (try simp only [show (k102).sz = 3 from rfl, Nat.mul_one, Nat.add_zero] at hf13_2); clear hcl13 hcc13 hfr13 hM13) | ((with_reducible refine gate_store (t := 3) (p := 30) rfl ?_); refine store_event (t := 3) (p := 30) (v := ?vo_w14) (w1 := (w12.setCell ⟨go5, (x5_1 : Int).toNat * 3 + 2, none⟩ (.int .i64 (wrap64 ((wrap64 (x1_1 + 1)) + 1))))) ?hg ?ho ?hn ?hr ?_; (case ho => rfl); (case hg => rfl); (case hn => rfl); (case hr => exact Pst.gr); intro w14 hw; have hg : w12.grownBy w14 (some go5) := (by rw [hw]; exact HP13.2); have hp_ : Kd.R k102 102 w14 w0.heap.size (fun k_ => (P0_ k_ ∨ w.heap.size ≤ k_)) (.slice (some ⟨go5, 0, none⟩) x0_1.length co8) y358 := (by rw [hw, Ny358.out]; exact HP13.1); clear HP13; replace HK := Pst.A (Kept.of_grown (S := (fun k_ => P0_ k_)) hg (by repeat (first | (with_reducible first | exact HK.out | apply Kept.alloc | apply Kept.drewN | apply Kept.drew) | exact HK.out)) (fun k_ e_ => (HO_0.out.1 k_ e_))); replace HO_0 := Pst.A hp_; replace HB := Pst.A ((by rw [hw]; exact below_set (HB.out) GB5.out : Below w0.heap.size w0 w14)); clear hg hw hp_))
    go_roundg k1
    case measure => have := HK1.out; omega
    case rel => exact ⟨(y358), (wrap64 ((wrap64 ((wrap64 (x1_1 + 1)) + 1)) + 1)), (wrap64 (x5_1 + 1)), Pst.e2, Pst.e2, H', ⟨by have := HK1.out; omega⟩, ⟨by (with_reducible repeat (first | apply Kd.R_alloc | apply Kd.R_drewN | apply Kd.R_drew)); exact HO_0.out⟩, ⟨by repeat (first | (with_reducible first | exact HK.out | apply Kept.alloc | apply Kept.drewN | apply Kept.drew) | exact HK.out)⟩, ⟨Pst.bel⟩⟩
   rw [if_neg c4] at H
   exact absurd H (by simp)
  rw [if_neg c3] at H
  have c3b0 : decide (x5_1 < (x0_1.length : Int)) = false := decide_eq_false c3
  clear c3
  simp only [Option.some.injEq, Prod.mk.injEq] at H
  obtain ⟨rfl, rfl⟩ := H
  obtain ⟨Ao15, co15, eo15⟩ := Kd.R_slice HO_0.out
  subst eo15
  go_wp2
  go_ret
  exact ⟨Pst.e1, by (with_reducible repeat (first | apply Kd.R_alloc | apply Kd.R_drewN | apply Kd.R_drew)); exact HO_0.out, Pst.bel, by repeat (first | (with_reducible first | exact HK.out | apply Kept.alloc | apply Kept.drewN | apply Kept.drew) | exact HK.out)⟩
theorem laws_markPolicyS.l0.st {x0 : List (S102)} {x1 : Int} {x5 : Int} {r : (Int × (List (S102)))} (H : Ev (fun k => if x5 < (x0.length : Int) then (if 0 ≤ x5 then ((some (x0.set (x5 : Int).toNat (⟨x1, (rd_T102 x0 x5).f1, (rd_T102 x0 x5).f2⟩ : S102) : List (S102))).bind fun y356 => ((some (y356.set (x5 : Int).toNat (⟨(rd_T102 y356 x5).f0, wrap64 (x1 + 1), (rd_T102 y356 x5).f2⟩ : S102) : List (S102))).bind fun y357 => (laws_markPolicyS.l0 k (y357.set (x5 : Int).toNat (⟨(rd_T102 y357 x5).f0, (rd_T102 y357 x5).f1, wrap64 ((wrap64 (x1 + 1)) + 1)⟩ : S102)) (wrap64 ((wrap64 ((wrap64 (x1 + 1)) + 1)) + 1)) (wrap64 (x5 + 1))))) else (none)) else (some (x1, x0))) r) : Ev (fun k => laws_markPolicyS.l0 k x0 x1 x5) r := Ev.step (fun k => laws_markPolicyS.l0.eq_2 x0 x1 x5 k) H

/-! ### laws_markSide: function 64 -/
def laws_markSide.f (k : Nat) (l0_0 : List (S102)) (a0_1 : Int) (a0_2 : Int) (a1 : Int) : Option (Int × (List (S102))) := (laws_markPolicyS.f k l0_0 a1).bind fun bt360 => (some (bt360.1, bt360.2))
theorem laws_markSide.mono : ∀ a0 a1 a2 a3 k, LeO (laws_markSide.f k a0 a1 a2 a3) (laws_markSide.f (k + 1) a0 a1 a2 a3) := by
 intro a0 a1 a2 a3 k
 unfold laws_markSide.f
 have m0 := @laws_markPolicyS.mono
 exact Pst.mo
theorem laws_markSide.calls (k : Nat) (P0_0_ : Nat → Prop) (u9000_ : Value) (l0_0 : List (S102)) (a0_1 : Int) (a0_2 : Int) (a1 : Int) (r1 : Int) (r2 : List (S102)) (w0 w : World) (hB : Below w0.heap.size w0 w) (ho0_0 : Kd.R k102 102 w w0.heap.size P0_0_ u9000_ l0_0) (h : laws_markSide.f k l0_0 a0_1 a0_2 a1 = some (r1, r2)) :
    Calls Tryz.prog 64 #[.agg #[u9000_, .int .i64 a0_1, .int .i64 a0_2], .int .i64 a1] w fun e w' => e = .returned (.int .i64 r1) ∧ Kd.R k102 102 w' w0.heap.size (fun k_ => (P0_0_ k_ ∨ w.heap.size ≤ k_)) u9000_ r2 ∧ Below w0.heap.size w0 w' ∧ Kept w w' (fun k_ => P0_0_ k_) := by
 have hu37 := Tryz.underlying37
 have HO0_0 := Pst.A (show Kd.R k102 102 w w0.heap.size (fun k_ => (P0_0_ k_ ∨ w.heap.size ≤ k_)) u9000_ l0_0 from Kd.R_mono ho0_0 (fun k_ hk => (.inl hk)))
 have HK := Pst.A (Kept.refl w (fun k_ => P0_0_ k_))
 have HW0 := Pst.A hB.size
 have HB := Pst.A hB
 clear hB
 have H : ((laws_markPolicyS.f k l0_0 a1).bind fun bt360 => (some (bt360.1, bt360.2))) = some (r1, r2) := h
 clear h
 obtain ⟨⟨t360, t361⟩, A30, H⟩ := Pst.bd H
 replace H : (some (t360, t361)) = some (r1, r2) := H
 have A3 := Pst.A A30
 clear A30
 simp only [Option.some.injEq, Prod.mk.injEq] at H
 obtain ⟨rfl, rfl⟩ := H
 obtain ⟨Ao4, co4, eo4⟩ := Kd.R_slice HO0_0.out
 subst eo4
 go_enter Tryz.func64, Tryz.ntmps64
 go_wp2_with (first | ((with_reducible refine gate_dst (N := 2) rfl ?_); refine Pst.bx 2 #[.slice Ao4 l0_0.length co4, .int .i64 a0_1, .int .i64 a0_2] 37 ?_; intro gb359 hg w5 hbox hb; have BK359 := Pst.A hbox; have GW359 := Pst.A ((by rw [hg]; exact (by first | exact HK.out.1 | exact (show Kept w _ (fun k_ => P0_0_ k_) from by repeat (first | (with_reducible first | exact HK.out | apply Kept.alloc | apply Kept.drewN | apply Kept.drew) | exact HK.out)).1) : w.heap.size ≤ gb359)); have GE359 := Pst.A ((by rw [hg]; exact (below_size Pst.bel) : w0.heap.size ≤ gb359)); replace HO0_0 := Pst.A (Kd.R_below (Pst.qr HO0_0.out) hb); replace HK := Pst.A (Kept.below (S := (fun k_ => P0_0_ k_)) (by repeat (first | (with_reducible first | exact HK.out | apply Kept.alloc | apply Kept.drewN | apply Kept.drew) | exact HK.out)) hb); replace HB := Pst.A (below_step Pst.bel hb); clear hb hbox hg; obtain ⟨_,_,_⟩ := Pst.c3 BK359.out; obtain ⟨_,_,_⟩ := Pst.f3 BK359.out) | ((with_reducible refine gate_callee (f := 91) rfl ?_); refine goesL_ (some 8) rfl rfl Tryz.func91 (by kernel_rfl) rfl #[.slice Ao4 l0_0.length co4, .int .i64 a1] rfl Pst.ga ?_; (with_reducible refine (laws_markPolicyS.calls k (fun k_ => some k_ = (.slice Ao4 l0_0.length co4 : Value).ownBlock) (.slice Ao4 l0_0.length co4) l0_0 a1 t360 t361 w0 _ ?side1 ?side2 A3.out).mono ?_); (case side1 => repeat (first | (with_reducible first | exact HB.out | apply below_alloc | apply pw_below_drewN | apply below_drew1 | refine below_set ?_ GE359.out) | exact HB.out)); (case side2 => exact Kd.R_tight rfl HO0_0.out); rintro e w7 ⟨rfl, hy0, hb, hkp⟩; refine ⟨_, rfl, ?_⟩; replace BK359 := Pst.A (blk_kept (Pst.qb BK359.out) hkp (fun hs_ => (fun e_ => (Kd.R_ne HO0_0.out BK359.out (by decide)) e_) hs_)); replace HK := Pst.A (Kept.then_ (S := (fun k_ => P0_0_ k_)) (by repeat (first | (with_reducible first | exact HK.out | apply Kept.alloc | apply Kept.drewN | apply Kept.drew | refine Kept.setCell ?_ (.inr GW359.out) _) | exact HK.out)) hkp (fun k_ hs_ => (fun e_ => (HO0_0.out.1 k_ e_.symm)) hs_)); replace HO0_0 := Pst.A (Kd.R_reok rfl hy0 (fun k_ e_ => HO0_0.out.1 k_ e_)); replace HB := Pst.A hb; (try clear hb); (try clear hkp); (try clear hy0)))
 go_ret
 exact ⟨Pst.e1, by (with_reducible repeat (first | apply Kd.R_alloc | apply Kd.R_drewN | apply Kd.R_drew)); exact HO0_0.out, Pst.bes, by repeat (first | (with_reducible first | exact HK.out | apply Kept.alloc | apply Kept.drewN | apply Kept.drew | refine Kept.setCell ?_ (.inr GW359.out) _) | exact HK.out)⟩

/-! ### laws_markBehave: function 36 -/
def laws_markBehave.f (k : Nat) (l0_0 : List (S102)) (a0_1 : Int) (a0_2 : Int) (l0_3 : List (S102)) (a0_4 : Int) (a0_5 : Int) (a0_6 : Int) (a0_7 : Int) (a1 : Int) : Option (Int × (List (S102)) × (List (S102))) := (laws_markSide.f k l0_0 a0_1 a0_2 a1).bind fun bt363 => ((laws_markSide.f k l0_3 a0_4 a0_5 bt363.1).bind fun bt365 => (some (bt365.1, bt363.2, bt365.2)))
theorem laws_markBehave.mono : ∀ a0 a1 a2 a3 a4 a5 a6 a7 a8 k, LeO (laws_markBehave.f k a0 a1 a2 a3 a4 a5 a6 a7 a8) (laws_markBehave.f (k + 1) a0 a1 a2 a3 a4 a5 a6 a7 a8) := by
 intro a0 a1 a2 a3 a4 a5 a6 a7 a8 k
 unfold laws_markBehave.f
 have m0 := @laws_markSide.mono
 exact Pst.mo
theorem laws_markBehave.calls (k : Nat) (P0_0_ : Nat → Prop) (u9000_ : Value) (l0_0 : List (S102)) (a0_1 : Int) (a0_2 : Int) (P0_3_ : Nat → Prop) (u9001_ : Value) (l0_3 : List (S102)) (a0_4 : Int) (a0_5 : Int) (a0_6 : Int) (a0_7 : Int) (a1 : Int) (r1 : Int) (r2 : List (S102)) (r3 : List (S102)) (w0 w : World) (hB : Below w0.heap.size w0 w) (ho0_0 : Kd.R k102 102 w w0.heap.size P0_0_ u9000_ l0_0) (hp0_0_0_3 : ∀ k_, P0_0_ k_ → ¬ P0_3_ k_) (ho0_3 : Kd.R k102 102 w w0.heap.size P0_3_ u9001_ l0_3) (hp0_3_0_0 : ∀ k_, P0_3_ k_ → ¬ P0_0_ k_) (h : laws_markBehave.f k l0_0 a0_1 a0_2 l0_3 a0_4 a0_5 a0_6 a0_7 a1 = some (r1, r2, r3)) :
    Calls Tryz.prog 36 #[.agg #[u9000_, .int .i64 a0_1, .int .i64 a0_2, u9001_, .int .i64 a0_4, .int .i64 a0_5, .int .i64 a0_6, .int .i64 a0_7], .int .i64 a1] w fun e w' => e = .returned (.int .i64 r1) ∧ Kd.R k102 102 w' w0.heap.size (fun k_ => ((P0_0_ k_ ∨ P0_3_ k_) ∨ w.heap.size ≤ k_)) u9000_ r2 ∧ Kd.R k102 102 w' w0.heap.size (fun k_ => ((P0_0_ k_ ∨ P0_3_ k_) ∨ w.heap.size ≤ k_)) u9001_ r3 ∧ Below w0.heap.size w0 w' ∧ Kept w w' (fun k_ => P0_0_ k_ ∨ P0_3_ k_) := by
 have hu39 := Tryz.underlying39
 have hu37 := Tryz.underlying37
 have HO0_0 := Pst.A (show Kd.R k102 102 w w0.heap.size (fun k_ => ((P0_0_ k_ ∨ P0_3_ k_) ∨ w.heap.size ≤ k_) ∧ some k_ ≠ (u9001_ : Value).ownBlock) u9000_ l0_0 from Kd.R_mono ho0_0 (fun k_ hk => ⟨(.inl (.inl hk)), fun e_ => hp0_0_0_3 k_ hk (ho0_3.1 k_ e_.symm)⟩))
 have HO0_3 := Pst.A (show Kd.R k102 102 w w0.heap.size (fun k_ => ((P0_0_ k_ ∨ P0_3_ k_) ∨ w.heap.size ≤ k_) ∧ some k_ ≠ (u9000_ : Value).ownBlock) u9001_ l0_3 from Kd.R_mono ho0_3 (fun k_ hk => ⟨(.inl (.inr hk)), fun e_ => hp0_3_0_0 k_ hk (ho0_0.1 k_ e_.symm)⟩))
 have HK := Pst.A (Kept.refl w (fun k_ => P0_0_ k_ ∨ P0_3_ k_))
 have HW0 := Pst.A hB.size
 have HB := Pst.A hB
 clear hB
 have H : ((laws_markSide.f k l0_0 a0_1 a0_2 a1).bind fun bt363 => ((laws_markSide.f k l0_3 a0_4 a0_5 bt363.1).bind fun bt365 => (some (bt365.1, bt363.2, bt365.2)))) = some (r1, r2, r3) := h
 clear h
 obtain ⟨⟨t363, t364⟩, A30, H⟩ := Pst.bd H
 replace H : ((laws_markSide.f k l0_3 a0_4 a0_5 t363).bind fun bt365 => (some (bt365.1, t364, bt365.2))) = some (r1, r2, r3) := H
 have A3 := Pst.A A30
 clear A30
 obtain ⟨⟨t365, t366⟩, A40, H⟩ := Pst.bd H
 replace H : (some (t365, t364, t366)) = some (r1, r2, r3) := H
 have A4 := Pst.A A40
 clear A40
 simp only [Option.some.injEq, Prod.mk.injEq] at H
 obtain ⟨rfl, rfl, rfl⟩ := H
 obtain ⟨Ao5, co5, eo5⟩ := Kd.R_slice HO0_0.out
 subst eo5
 obtain ⟨Ao6, co6, eo6⟩ := Kd.R_slice HO0_3.out
 subst eo6
 go_enter Tryz.func36, Tryz.ntmps36
 go_wp2_with (first | ((with_reducible refine gate_dst (N := 2) rfl ?_); refine Pst.bx 2 #[.slice Ao5 l0_0.length co5, .int .i64 a0_1, .int .i64 a0_2, .slice Ao6 l0_3.length co6, .int .i64 a0_4, .int .i64 a0_5, .int .i64 a0_6, .int .i64 a0_7] 39 ?_; intro gb362 hg w7 hbox hb; have BK362 := Pst.A hbox; have GW362 := Pst.A ((by rw [hg]; exact (by first | exact HK.out.1 | exact (show Kept w _ (fun k_ => P0_0_ k_ ∨ P0_3_ k_) from by repeat (first | (with_reducible first | exact HK.out | apply Kept.alloc | apply Kept.drewN | apply Kept.drew) | exact HK.out)).1) : w.heap.size ≤ gb362)); have GE362 := Pst.A ((by rw [hg]; exact (below_size Pst.bel) : w0.heap.size ≤ gb362)); replace HO0_0 := Pst.A (Kd.R_below (Pst.qr HO0_0.out) hb); replace HO0_3 := Pst.A (Kd.R_below (Pst.qr HO0_3.out) hb); replace HK := Pst.A (Kept.below (S := (fun k_ => P0_0_ k_ ∨ P0_3_ k_)) (by repeat (first | (with_reducible first | exact HK.out | apply Kept.alloc | apply Kept.drewN | apply Kept.drew) | exact HK.out)) hb); replace HB := Pst.A (below_step Pst.bel hb); clear hb hbox hg; obtain ⟨_,_,_,_,_,_,_,_⟩ := Pst.c8 BK362.out; obtain ⟨_,_,_,_,_,_,_,_⟩ := Pst.f8 BK362.out) | ((with_reducible refine gate_callee (f := 64) rfl ?_); refine goesL_ (some 8) rfl rfl Tryz.func64 (by kernel_rfl) rfl #[.agg #[.slice Ao5 l0_0.length co5, .int .i64 a0_1, .int .i64 a0_2], .int .i64 a1] rfl Pst.ga ?_; (with_reducible refine (laws_markSide.calls k (fun k_ => some k_ = (.slice Ao5 l0_0.length co5 : Value).ownBlock) (.slice Ao5 l0_0.length co5) l0_0 a0_1 a0_2 a1 t363 t364 w0 _ ?side1 ?side2 A3.out).mono ?_); (case side1 => repeat (first | (with_reducible first | exact HB.out | apply below_alloc | apply pw_below_drewN | apply below_drew1 | refine below_set ?_ GE362.out) | exact HB.out)); (case side2 => exact Kd.R_tight rfl HO0_0.out); rintro e w9 ⟨rfl, hy0, hb, hkp⟩; refine ⟨_, rfl, ?_⟩; replace HO0_3 := Pst.A (Kd.R_mono (ok' := fun k_ => ((P0_0_ k_ ∨ P0_3_ k_) ∨ w.heap.size ≤ k_) ∧ some k_ ≠ (.slice Ao5 l0_0.length co5 : Value).ownBlock) (Kd.R_keptB (HO0_3.out) hkp (fun k_ hk_ hs_ => (hk_.2) hs_)) (fun k_ hk_ => ⟨hk_.1.1, hk_.1.2⟩)); replace BK362 := Pst.A (blk_kept (Pst.qb BK362.out) hkp (fun hs_ => (fun e_ => (Kd.R_ne HO0_0.out BK362.out (by decide)) e_) hs_)); replace HK := Pst.A (Kept.then_ (S := (fun k_ => P0_0_ k_ ∨ P0_3_ k_)) (by repeat (first | (with_reducible first | exact HK.out | apply Kept.alloc | apply Kept.drewN | apply Kept.drew | refine Kept.setCell ?_ (.inr GW362.out) _) | exact HK.out)) hkp (fun k_ hs_ => (fun e_ => (HO0_0.out.1 k_ e_.symm).1) hs_)); replace HO0_0 := Pst.A (Kd.R_reok rfl hy0 (fun k_ e_ => HO0_0.out.1 k_ e_)); replace HB := Pst.A hb; (try clear hb); (try clear hkp); (try clear hy0); obtain ⟨_,_,_,_,_,_,_,_⟩ := Pst.c8 BK362.out; obtain ⟨_,_,_,_,_,_,_,_⟩ := Pst.f8 BK362.out) | ((with_reducible refine gate_callee (f := 64) rfl ?_); refine goesL_ (some 12) rfl rfl Tryz.func64 (by kernel_rfl) rfl #[.agg #[.slice Ao6 l0_3.length co6, .int .i64 a0_4, .int .i64 a0_5], .int .i64 t363] rfl Pst.ga ?_; (with_reducible refine (laws_markSide.calls k (fun k_ => some k_ = (.slice Ao6 l0_3.length co6 : Value).ownBlock) (.slice Ao6 l0_3.length co6) l0_3 a0_4 a0_5 t363 t365 t366 w0 _ ?side1 ?side2 A4.out).mono ?_); (case side1 => repeat (first | (with_reducible first | exact HB.out | apply below_alloc | apply pw_below_drewN | apply below_drew1 | refine below_set ?_ GE362.out) | exact HB.out)); (case side2 => exact Kd.R_tight rfl HO0_3.out); rintro e w11 ⟨rfl, hy0, hb, hkp⟩; refine ⟨_, rfl, ?_⟩; replace HO0_0 := Pst.A (Kd.R_mono (ok' := fun k_ => ((P0_0_ k_ ∨ P0_3_ k_) ∨ w.heap.size ≤ k_) ∧ some k_ ≠ (.slice Ao6 l0_3.length co6 : Value).ownBlock) (Kd.R_keptB (HO0_0.out) hkp (fun k_ hk_ hs_ => (hk_.2) hs_)) (fun k_ hk_ => ⟨hk_.1.1, hk_.1.2⟩)); replace BK362 := Pst.A (blk_kept (Pst.qb BK362.out) hkp (fun hs_ => (fun e_ => (Kd.R_ne HO0_3.out BK362.out (by decide)) e_) hs_)); replace HK := Pst.A (Kept.then_ (S := (fun k_ => P0_0_ k_ ∨ P0_3_ k_)) (by repeat (first | (with_reducible first | exact HK.out | apply Kept.alloc | apply Kept.drewN | apply Kept.drew | refine Kept.setCell ?_ (.inr GW362.out) _) | exact HK.out)) hkp (fun k_ hs_ => (fun e_ => (HO0_3.out.1 k_ e_.symm).1) hs_)); replace HO0_3 := Pst.A (Kd.R_reok rfl hy0 (fun k_ e_ => HO0_3.out.1 k_ e_)); replace HB := Pst.A hb; (try clear hb); (try clear hkp); (try clear hy0)))
 go_ret
 exact ⟨Pst.e1, by (with_reducible repeat (first | apply Kd.R_alloc | apply Kd.R_drewN | apply Kd.R_drew)); exact Kd.R_mono HO0_0.out (fun _ hk => hk.1), by (with_reducible repeat (first | apply Kd.R_alloc | apply Kd.R_drewN | apply Kd.R_drew)); exact Kd.R_mono HO0_3.out (fun _ hk => hk.1), Pst.bes, by repeat (first | (with_reducible first | exact HK.out | apply Kept.alloc | apply Kept.drewN | apply Kept.drew | refine Kept.setCell ?_ (.inr GW362.out) _) | exact HK.out)⟩

/-! ### laws_markSetup: function 10 -/
def laws_markSetup.f (k : Nat) (a0_0 : Int) (a0_1 : Int) (a0_2 : Int) (l0_3 : List (S82)) (l0_4 : List (S102)) (a0_5 : Int) (a0_6 : Int) (l0_7 : List (S102)) (a0_8 : Int) (a0_9 : Int) (a0_10 : Int) (a0_11 : Int) (a1 : Int) : Option (Int × (List (S82)) × (List (S102)) × (List (S102))) := (laws_markGoalS.f k l0_3 a1).bind fun bt368 => ((laws_markBehave.f k l0_4 a0_5 a0_6 l0_7 a0_8 a0_9 a0_10 a0_11 bt368.1).bind fun bt370 => (some (bt370.1, bt368.2, bt370.2.1, bt370.2.2)))
theorem laws_markSetup.mono : ∀ a0 a1 a2 a3 a4 a5 a6 a7 a8 a9 a10 a11 a12 k, LeO (laws_markSetup.f k a0 a1 a2 a3 a4 a5 a6 a7 a8 a9 a10 a11 a12) (laws_markSetup.f (k + 1) a0 a1 a2 a3 a4 a5 a6 a7 a8 a9 a10 a11 a12) := by
 intro a0 a1 a2 a3 a4 a5 a6 a7 a8 a9 a10 a11 a12 k
 unfold laws_markSetup.f
 have m0 := @laws_markBehave.mono
 have m1 := @laws_markGoalS.mono
 exact Pst.mo
theorem laws_markSetup.calls (k : Nat) (a0_0 : Int) (a0_1 : Int) (a0_2 : Int) (P0_3_ : Nat → Prop) (u9000_ : Value) (l0_3 : List (S82)) (P0_4_ : Nat → Prop) (u9001_ : Value) (l0_4 : List (S102)) (a0_5 : Int) (a0_6 : Int) (P0_7_ : Nat → Prop) (u9002_ : Value) (l0_7 : List (S102)) (a0_8 : Int) (a0_9 : Int) (a0_10 : Int) (a0_11 : Int) (a1 : Int) (r1 : Int) (r2 : List (S82)) (r3 : List (S102)) (r4 : List (S102)) (w0 w : World) (hB : Below w0.heap.size w0 w) (ho0_3 : Kd.R k82 82 w w0.heap.size P0_3_ u9000_ l0_3) (ho0_4 : Kd.R k102 102 w w0.heap.size P0_4_ u9001_ l0_4) (hp0_4_0_7 : ∀ k_, P0_4_ k_ → ¬ P0_7_ k_) (ho0_7 : Kd.R k102 102 w w0.heap.size P0_7_ u9002_ l0_7) (hp0_7_0_4 : ∀ k_, P0_7_ k_ → ¬ P0_4_ k_) (h : laws_markSetup.f k a0_0 a0_1 a0_2 l0_3 l0_4 a0_5 a0_6 l0_7 a0_8 a0_9 a0_10 a0_11 a1 = some (r1, r2, r3, r4)) :
    Calls Tryz.prog 10 #[.agg #[.int .i64 a0_0, .int .i64 a0_1, .int .i64 a0_2, u9000_, u9001_, .int .i64 a0_5, .int .i64 a0_6, u9002_, .int .i64 a0_8, .int .i64 a0_9, .int .i64 a0_10, .int .i64 a0_11], .int .i64 a1] w fun e w' => e = .returned (.int .i64 r1) ∧ Kd.R k82 82 w' w0.heap.size (fun k_ => ((P0_3_ k_ ∨ P0_4_ k_ ∨ P0_7_ k_) ∨ w.heap.size ≤ k_)) u9000_ r2 ∧ Kd.R k102 102 w' w0.heap.size (fun k_ => ((P0_3_ k_ ∨ P0_4_ k_ ∨ P0_7_ k_) ∨ w.heap.size ≤ k_)) u9001_ r3 ∧ Kd.R k102 102 w' w0.heap.size (fun k_ => ((P0_3_ k_ ∨ P0_4_ k_ ∨ P0_7_ k_) ∨ w.heap.size ≤ k_)) u9002_ r4 ∧ Below w0.heap.size w0 w' ∧ Kept w w' (fun k_ => P0_3_ k_ ∨ P0_4_ k_ ∨ P0_7_ k_) := by
 have hu41 := Tryz.underlying41
 have hu39 := Tryz.underlying39
 have HO0_3 := Pst.A (show Kd.R k82 82 w w0.heap.size (fun k_ => ((P0_3_ k_ ∨ P0_4_ k_ ∨ P0_7_ k_) ∨ w.heap.size ≤ k_)) u9000_ l0_3 from Kd.R_mono ho0_3 (fun k_ hk => (.inl (.inl hk))))
 have HO0_4 := Pst.A (show Kd.R k102 102 w w0.heap.size (fun k_ => ((P0_3_ k_ ∨ P0_4_ k_ ∨ P0_7_ k_) ∨ w.heap.size ≤ k_) ∧ some k_ ≠ (u9002_ : Value).ownBlock) u9001_ l0_4 from Kd.R_mono ho0_4 (fun k_ hk => ⟨(.inl (.inr (.inl hk))), fun e_ => hp0_4_0_7 k_ hk (ho0_7.1 k_ e_.symm)⟩))
 have HO0_7 := Pst.A (show Kd.R k102 102 w w0.heap.size (fun k_ => ((P0_3_ k_ ∨ P0_4_ k_ ∨ P0_7_ k_) ∨ w.heap.size ≤ k_) ∧ some k_ ≠ (u9001_ : Value).ownBlock) u9002_ l0_7 from Kd.R_mono ho0_7 (fun k_ hk => ⟨(.inl (.inr (.inr hk))), fun e_ => hp0_7_0_4 k_ hk (ho0_4.1 k_ e_.symm)⟩))
 have HK := Pst.A (Kept.refl w (fun k_ => P0_3_ k_ ∨ P0_4_ k_ ∨ P0_7_ k_))
 have HW0 := Pst.A hB.size
 have HB := Pst.A hB
 clear hB
 have H : ((laws_markGoalS.f k l0_3 a1).bind fun bt368 => ((laws_markBehave.f k l0_4 a0_5 a0_6 l0_7 a0_8 a0_9 a0_10 a0_11 bt368.1).bind fun bt370 => (some (bt370.1, bt368.2, bt370.2.1, bt370.2.2)))) = some (r1, r2, r3, r4) := h
 clear h
 obtain ⟨⟨t368, t369⟩, A30, H⟩ := Pst.bd H
 replace H : ((laws_markBehave.f k l0_4 a0_5 a0_6 l0_7 a0_8 a0_9 a0_10 a0_11 t368).bind fun bt370 => (some (bt370.1, t369, bt370.2.1, bt370.2.2))) = some (r1, r2, r3, r4) := H
 have A3 := Pst.A A30
 clear A30
 obtain ⟨⟨t370, t371, t372⟩, A40, H⟩ := Pst.bd H
 replace H : (some (t370, t369, t371, t372)) = some (r1, r2, r3, r4) := H
 have A4 := Pst.A A40
 clear A40
 simp only [Option.some.injEq, Prod.mk.injEq] at H
 obtain ⟨rfl, rfl, rfl, rfl⟩ := H
 obtain ⟨Ao5, co5, eo5⟩ := Kd.R_slice HO0_3.out
 subst eo5
 obtain ⟨Ao6, co6, eo6⟩ := Kd.R_slice HO0_4.out
 subst eo6
 obtain ⟨Ao7, co7, eo7⟩ := Kd.R_slice HO0_7.out
 subst eo7
 go_enter Tryz.func10, Tryz.ntmps10
 go_wp2_with (first | ((with_reducible refine gate_dst (N := 2) rfl ?_); refine Pst.bx 2 #[.int .i64 a0_0, .int .i64 a0_1, .int .i64 a0_2, .slice Ao5 l0_3.length co5, .slice Ao6 l0_4.length co6, .int .i64 a0_5, .int .i64 a0_6, .slice Ao7 l0_7.length co7, .int .i64 a0_8, .int .i64 a0_9, .int .i64 a0_10, .int .i64 a0_11] 41 ?_; intro gb367 hg w8 hbox hb; have BK367 := Pst.A hbox; have GW367 := Pst.A ((by rw [hg]; exact (by first | exact HK.out.1 | exact (show Kept w _ (fun k_ => P0_3_ k_ ∨ P0_4_ k_ ∨ P0_7_ k_) from by repeat (first | (with_reducible first | exact HK.out | apply Kept.alloc | apply Kept.drewN | apply Kept.drew) | exact HK.out)).1) : w.heap.size ≤ gb367)); have GE367 := Pst.A ((by rw [hg]; exact (below_size Pst.bel) : w0.heap.size ≤ gb367)); replace HO0_3 := Pst.A (Kd.R_below (Pst.qr HO0_3.out) hb); replace HO0_4 := Pst.A (Kd.R_below (Pst.qr HO0_4.out) hb); replace HO0_7 := Pst.A (Kd.R_below (Pst.qr HO0_7.out) hb); replace HK := Pst.A (Kept.below (S := (fun k_ => P0_3_ k_ ∨ P0_4_ k_ ∨ P0_7_ k_)) (by repeat (first | (with_reducible first | exact HK.out | apply Kept.alloc | apply Kept.drewN | apply Kept.drew) | exact HK.out)) hb); replace HB := Pst.A (below_step Pst.bel hb); clear hb hbox hg; obtain ⟨_,_,_,_,_,_,_,_,_,_,_,_⟩ := Pst.c12 BK367.out; obtain ⟨_,_,_,_,_,_,_,_,_,_,_,_⟩ := Pst.f12 BK367.out) | ((with_reducible refine gate_callee (f := 35) rfl ?_); refine goesL_ (some 8) rfl rfl Tryz.func35 (by kernel_rfl) rfl #[.slice Ao5 l0_3.length co5, .int .i64 a1] rfl Pst.ga ?_; (with_reducible refine (laws_markGoalS.calls k (fun k_ => some k_ = (.slice Ao5 l0_3.length co5 : Value).ownBlock) (.slice Ao5 l0_3.length co5) l0_3 a1 t368 t369 w0 _ ?side1 ?side2 A3.out).mono ?_); (case side1 => repeat (first | (with_reducible first | exact HB.out | apply below_alloc | apply pw_below_drewN | apply below_drew1 | refine below_set ?_ GE367.out) | exact HB.out)); (case side2 => exact Kd.R_tight rfl HO0_3.out); rintro e w10 ⟨rfl, hy0, hb, hkp⟩; refine ⟨_, rfl, ?_⟩; replace HO0_4 := Pst.A (Kd.R_mono (ok' := fun k_ => ((P0_3_ k_ ∨ P0_4_ k_ ∨ P0_7_ k_) ∨ w.heap.size ≤ k_) ∧ some k_ ≠ (.slice Ao7 l0_7.length co7 : Value).ownBlock) (Kd.R_keptB ((Kd.R_apart' HO0_4.out (Kd.R_typed HO0_3.out) (by decide))) hkp (fun k_ hk_ hs_ => (hk_.2) hs_)) (fun k_ hk_ => ⟨hk_.1.1.1, hk_.1.1.2⟩)); replace HO0_7 := Pst.A (Kd.R_mono (ok' := fun k_ => ((P0_3_ k_ ∨ P0_4_ k_ ∨ P0_7_ k_) ∨ w.heap.size ≤ k_) ∧ some k_ ≠ (.slice Ao6 l0_4.length co6 : Value).ownBlock) (Kd.R_keptB ((Kd.R_apart' HO0_7.out (Kd.R_typed HO0_3.out) (by decide))) hkp (fun k_ hk_ hs_ => (hk_.2) hs_)) (fun k_ hk_ => ⟨hk_.1.1.1, hk_.1.1.2⟩)); replace BK367 := Pst.A (blk_kept (Pst.qb BK367.out) hkp (fun hs_ => (fun e_ => (Kd.R_ne HO0_3.out BK367.out (by decide)) e_) hs_)); replace HK := Pst.A (Kept.then_ (S := (fun k_ => P0_3_ k_ ∨ P0_4_ k_ ∨ P0_7_ k_)) (by repeat (first | (with_reducible first | exact HK.out | apply Kept.alloc | apply Kept.drewN | apply Kept.drew | refine Kept.setCell ?_ (.inr GW367.out) _) | exact HK.out)) hkp (fun k_ hs_ => (fun e_ => (HO0_3.out.1 k_ e_.symm)) hs_)); replace HO0_3 := Pst.A (Kd.R_reok rfl hy0 (fun k_ e_ => HO0_3.out.1 k_ e_)); replace HB := Pst.A hb; (try clear hb); (try clear hkp); (try clear hy0); obtain ⟨_,_,_,_,_,_,_,_,_,_,_,_⟩ := Pst.c12 BK367.out; obtain ⟨_,_,_,_,_,_,_,_,_,_,_,_⟩ := Pst.f12 BK367.out) | ((with_reducible refine gate_callee (f := 36) rfl ?_); refine goesL_ (some 12) rfl rfl Tryz.func36 (by kernel_rfl) rfl #[.agg #[.slice Ao6 l0_4.length co6, .int .i64 a0_5, .int .i64 a0_6, .slice Ao7 l0_7.length co7, .int .i64 a0_8, .int .i64 a0_9, .int .i64 a0_10, .int .i64 a0_11], .int .i64 t368] rfl Pst.ga ?_; (with_reducible refine (laws_markBehave.calls k (fun k_ => some k_ = (.slice Ao6 l0_4.length co6 : Value).ownBlock) (.slice Ao6 l0_4.length co6) l0_4 a0_5 a0_6 (fun k_ => some k_ = (.slice Ao7 l0_7.length co7 : Value).ownBlock) (.slice Ao7 l0_7.length co7) l0_7 a0_8 a0_9 a0_10 a0_11 t368 t370 t371 t372 w0 _ ?side1 ?side2 ?side3 ?side4 ?side5 A4.out).mono ?_); (case side1 => repeat (first | (with_reducible first | exact HB.out | apply below_alloc | apply pw_below_drewN | apply below_drew1 | refine below_set ?_ GE367.out) | exact HB.out)); (case side2 => exact Kd.R_tight rfl HO0_4.out); (case side3 => exact fun k_ e_ => (HO0_4.out.1 k_ e_.symm).2); (case side4 => exact Kd.R_tight rfl HO0_7.out); (case side5 => exact fun k_ e_ => (HO0_7.out.1 k_ e_.symm).2); rintro e w12 ⟨rfl, hy0, hy1, hb, hkp⟩; refine ⟨_, rfl, ?_⟩; replace HO0_3 := Pst.A (Kd.R_mono (ok' := fun k_ => ((P0_3_ k_ ∨ P0_4_ k_ ∨ P0_7_ k_) ∨ w.heap.size ≤ k_)) (Kd.R_keptB ((Kd.R_apart' (Kd.R_apart' HO0_3.out (Kd.R_typed HO0_4.out) (by decide)) (Kd.R_typed HO0_7.out) (by decide))) hkp (fun k_ hk_ hs_ => Or.elim hs_ (fun e_ => (hk_.1.2) e_) (fun e_ => (hk_.2) e_))) (fun k_ hk_ => hk_.1.1.1)); replace BK367 := Pst.A (blk_kept (Pst.qb BK367.out) hkp (fun hs_ => Or.elim hs_ (fun e_ => (fun e_ => (Kd.R_ne HO0_4.out BK367.out (by decide)) e_) e_) (fun e_ => (fun e_ => (Kd.R_ne HO0_7.out BK367.out (by decide)) e_) e_))); replace HK := Pst.A (Kept.then_ (S := (fun k_ => P0_3_ k_ ∨ P0_4_ k_ ∨ P0_7_ k_)) (by repeat (first | (with_reducible first | exact HK.out | apply Kept.alloc | apply Kept.drewN | apply Kept.drew | refine Kept.setCell ?_ (.inr GW367.out) _) | exact HK.out)) hkp (fun k_ hs_ => Or.elim hs_ (fun e_ => (fun e_ => (HO0_4.out.1 k_ e_.symm).1) e_) (fun e_ => (fun e_ => (HO0_7.out.1 k_ e_.symm).1) e_))); replace HO0_4 := Pst.A (Kd.R_reok rfl hy0 (fun k_ e_ => HO0_4.out.1 k_ e_)); replace HO0_7 := Pst.A (Kd.R_reok rfl hy1 (fun k_ e_ => HO0_7.out.1 k_ e_)); replace HB := Pst.A hb; (try clear hb); (try clear hkp); (try clear hy0); (try clear hy1)))
 go_ret
 exact ⟨Pst.e1, by (with_reducible repeat (first | apply Kd.R_alloc | apply Kd.R_drewN | apply Kd.R_drew)); exact HO0_3.out, by (with_reducible repeat (first | apply Kd.R_alloc | apply Kd.R_drewN | apply Kd.R_drew)); exact Kd.R_mono HO0_4.out (fun _ hk => hk.1), by (with_reducible repeat (first | apply Kd.R_alloc | apply Kd.R_drewN | apply Kd.R_drew)); exact Kd.R_mono HO0_7.out (fun _ hk => hk.1), Pst.bes, by repeat (first | (with_reducible first | exact HK.out | apply Kept.alloc | apply Kept.drewN | apply Kept.drew | refine Kept.setCell ?_ (.inr GW367.out) _) | exact HK.out)⟩

/-! ### laws_markIntS: function 37 -/
def laws_markIntS.l0 : Nat → List Int → Int → Int → Option (Int × List Int)
 | 0, _, _, _ => none
 | k + 1, x0, x1, x5 => if x5 < (x0.length : Int) then (if 0 ≤ x5 then (laws_markIntS.l0 k (x0.set (x5 : Int).toNat x1) (wrap64 (x1 + 1)) (wrap64 (x5 + 1))) else (none)) else (some (x1, x0))
def laws_markIntS.f (k : Nat) (l0 : List Int) (a1 : Int) : Option (Int × List Int) := laws_markIntS.l0 k l0 a1 0
theorem laws_markIntS.mono_l : ∀ k, (∀ y0 y1 y2, LeO (laws_markIntS.l0 k y0 y1 y2) (laws_markIntS.l0 (k + 1) y0 y1 y2))
 | 0 => fun _ _ _ r h => by simp [laws_markIntS.l0] at h
 | k + 1 => by
  have ih0 := laws_markIntS.mono_l k
  ·intro y0 y1 y2
   unfold laws_markIntS.l0
   exact Pst.mo
theorem laws_markIntS.mono : ∀ a0 a1 k, LeO (laws_markIntS.f k a0 a1) (laws_markIntS.f (k + 1) a0 a1) := by
 intro a0 a1 k
 have ih0 := laws_markIntS.mono_l k
 unfold laws_markIntS.f
 exact Pst.mo
theorem laws_markIntS.calls (k : Nat) (P0_ : Nat → Prop) (u9000_ : Value) (l0 : List Int) (a1 : Int) (r1 : Int) (r2 : List Int) (w0 w : World) (hB : Below w0.heap.size w0 w) (ho0 : Kd.R (Kd.int .i64) 3 w w0.heap.size P0_ u9000_ l0) (h : laws_markIntS.f k l0 a1 = some (r1, r2)) :
    Calls Tryz.prog 37 #[u9000_, .int .i64 a1] w fun e w' => e = .returned (.int .i64 r1) ∧ Kd.R (Kd.int .i64) 3 w' w0.heap.size (fun k_ => (P0_ k_ ∨ w.heap.size ≤ k_)) u9000_ r2 ∧ Below w0.heap.size w0 w' ∧ Kept w w' (fun k_ => P0_ k_) := by
 have HO0 := Pst.A (show Kd.R (Kd.int .i64) 3 w w0.heap.size (fun k_ => (P0_ k_ ∨ w.heap.size ≤ k_)) u9000_ l0 from Kd.R_mono ho0 (fun k_ hk => (.inl hk)))
 have HK := Pst.A (Kept.refl w (fun k_ => P0_ k_))
 have HW0 := Pst.A hB.size
 have HB := Pst.A hB
 clear hB
 have H : (laws_markIntS.l0 k l0 a1 0) = some (r1, r2) := h
 clear h
 have H' := Pst.A H
 clear H
 go_enter Tryz.func37, Tryz.ntmps37
 go_wp2
 go_loopg [1, 5] k (fun kq v1 v5 w' => ∃ (x0_1 : List Int) (x1_1 : Int) (x5_1 : Int), v1 = .int .i64 x1_1 ∧ v5 = .int .i64 x5_1 ∧ Aside0 (laws_markIntS.l0 kq x0_1 x1_1 x5_1 = some (r1, r2)) ∧ Aside0 (kq ≤ k) ∧ Aside0 (Kd.R (Kd.int .i64) 3 w' w0.heap.size (fun k_ => (P0_ k_ ∨ w.heap.size ≤ k_)) u9000_ x0_1) ∧ Aside0 (Kept w w' (fun k_ => P0_ k_)) ∧ Aside0 (Below w0.heap.size w0 w'))
 case atStart => exact ⟨(l0), (a1), (0), Pst.e2, Pst.e2, H', ⟨Nat.le_refl _⟩, ⟨by (with_reducible repeat (first | apply Kd.R_alloc | apply Kd.R_drewN | apply Kd.R_drew)); exact HO0.out⟩, ⟨by repeat (first | (with_reducible first | exact HK.out | apply Kept.alloc | apply Kept.drewN | apply Kept.drew) | exact HK.out)⟩, ⟨Pst.bel⟩⟩
 clear H'
 try clear p2
 obtain ⟨x0_1, x1_1, x5_1, rfl, rfl, HA, HK1, HO_0, HK, HB⟩ := hrel
 cases gk with
 | zero => exact absurd HA.out (by simp [laws_markIntS.l0])
 | succ k1 =>
  have H := HA.out
  clear HA
  simp only [laws_markIntS.l0] at H
  by_cases c3 : x5_1 < (x0_1.length : Int)
  ·rw [if_pos c3] at H
   have c3b0 : decide (x5_1 < (x0_1.length : Int)) = true := decide_eq_true c3
   clear c3
   by_cases c4 : 0 ≤ x5_1
   ·rw [if_pos c4] at H
    have c4b0 : decide (0 ≤ x5_1) = true := decide_eq_true c4
    clear c4
    obtain ⟨y373, hy373⟩ : ∃ y_ : List Int, y_ = (x0_1.set (x5_1 : Int).toNat x1_1) := ⟨_, rfl⟩
    replace H : (laws_markIntS.l0 k1 y373 (wrap64 (x1_1 + 1)) (wrap64 (x5_1 + 1))) = some (r1, r2) := by first | (rw [hy373]; with_reducible exact H) | (have H2_ := (Option.bind_some _ _).symm.trans H; rw [hy373]; with_reducible exact H2_) | (have H2_ := (Option.bind_some _ _).symm.trans H; with_reducible exact H2_) | with_reducible exact H | (rw [hy373]; exact H) | exact H
    have Ny373 := Pst.A hy373
    clear hy373
    have H' := Pst.A H
    clear H
    obtain ⟨Ao6, co6, eo6⟩ := Kd.R_slice HO_0.out
    subst eo6
    have p5 : 0 ≤ (x5_1 : Int) := Pst.da
    have q5 : (x5_1 : Int) < ((x0_1.length : Int) : Int) := Pst.da
    obtain ⟨go5, co5, eo5, gb5, gl5, cl5, HG5⟩ := Kd.R_form HO_0.out (by omega)
    (first | cases eo5 | (injection eo5 with ea_ en_ ec_; (first | subst ea_ | (injection ea_ with ea_; subst ea_)); subst ec_; clear en_))
    have GB5 := Pst.A gb5
    have GG5 := Pst.A HG5
    clear gb5 gl5 HG5
    have HMgo5 := Pst.A (show (P0_ go5 ∨ w.heap.size ≤ go5) from (HO_0.out.1 _ rfl))
    obtain ⟨hx5_0, hf5_0⟩ := Kd.R_celln 0 HO_0.out (x5_1 : Int) p5 q5
    replace p5 := eq_true p5
    replace q5 := eq_true q5
    have HP7 := Kd.R_putg HO_0.out (x5_1 : Int) x1_1
    go_wp2_with (first | ((with_reducible refine gate_store (t := 3) (p := 15) rfl ?_); refine store_event (t := 3) (p := 15) (v := ?vo_w8) (w1 := (wr.setCell ⟨go5, (x5_1 : Int).toNat, none⟩ (.int .i64 x1_1))) ?hg ?ho ?hn ?hr ?_; (case ho => rfl); (case hg => rfl); (case hn => rfl); (case hr => exact Pst.gr); intro w8 hw; have hg : wr.grownBy w8 (some go5) := (by rw [hw]; exact HP7.2); have hp_ : Kd.R (Kd.int .i64) 3 w8 w0.heap.size (fun k_ => (P0_ k_ ∨ w.heap.size ≤ k_)) (.slice (some ⟨go5, 0, none⟩) x0_1.length co6) y373 := (by rw [hw, Ny373.out]; exact HP7.1); clear HP7; replace HK := Pst.A (Kept.of_grown (S := (fun k_ => P0_ k_)) hg (by repeat (first | (with_reducible first | exact HK.out | apply Kept.alloc | apply Kept.drewN | apply Kept.drew) | exact HK.out)) (fun k_ e_ => (HO_0.out.1 k_ e_))); replace HO_0 := Pst.A hp_; replace HB := Pst.A ((by rw [hw]; exact below_set (HB.out) GB5.out : Below w0.heap.size w0 w8)); clear hg hw hp_))
    go_roundg k1
    case measure => have := HK1.out; omega
    case rel => exact ⟨(y373), (wrap64 (x1_1 + 1)), (wrap64 (x5_1 + 1)), Pst.e2, Pst.e2, H', ⟨by have := HK1.out; omega⟩, ⟨by (with_reducible repeat (first | apply Kd.R_alloc | apply Kd.R_drewN | apply Kd.R_drew)); exact HO_0.out⟩, ⟨by repeat (first | (with_reducible first | exact HK.out | apply Kept.alloc | apply Kept.drewN | apply Kept.drew) | exact HK.out)⟩, ⟨Pst.bel⟩⟩
   ·rw [if_neg c4] at H
    exact absurd H (by simp)
  ·rw [if_neg c3] at H
   have c3b0 : decide (x5_1 < (x0_1.length : Int)) = false := decide_eq_false c3
   clear c3
   simp only [Option.some.injEq, Prod.mk.injEq] at H
   obtain ⟨rfl, rfl⟩ := H
   obtain ⟨Ao9, co9, eo9⟩ := Kd.R_slice HO_0.out
   subst eo9
   go_wp2
   go_ret
   exact ⟨Pst.e1, by (with_reducible repeat (first | apply Kd.R_alloc | apply Kd.R_drewN | apply Kd.R_drew)); exact HO_0.out, Pst.bel, by repeat (first | (with_reducible first | exact HK.out | apply Kept.alloc | apply Kept.drewN | apply Kept.drew) | exact HK.out)⟩
theorem laws_markIntS.l0.st {x0 : List Int} {x1 : Int} {x5 : Int} {r : (Int × List Int)} (H : Ev (fun k => if x5 < (x0.length : Int) then (if 0 ≤ x5 then (laws_markIntS.l0 k (x0.set (x5 : Int).toNat x1) (wrap64 (x1 + 1)) (wrap64 (x5 + 1))) else (none)) else (some (x1, x0))) r) : Ev (fun k => laws_markIntS.l0 k x0 x1 x5) r := Ev.step (fun k => laws_markIntS.l0.eq_2 x0 x1 x5 k) H

/-! ### laws_markWorld: function 11 -/
def laws_markWorld.f (k : Nat) (a0_0 : Int) (a0_1 : Int) (a0_2 : Int) (l0_3 : List (S82)) (l0_4 : List (S102)) (a0_5 : Int) (a0_6 : Int) (l0_7 : List (S102)) (a0_8 : Int) (a0_9 : Int) (a0_10 : Int) (a0_11 : Int) (l0_12 : List Int) (a0_13 : Int) (a0_14 : Int) (a0_15 : Int) (a1 : Int) : Option (Int × (List (S82)) × (List (S102)) × (List (S102)) × List Int) := (laws_markSetup.f k a0_0 a0_1 a0_2 l0_3 l0_4 a0_5 a0_6 l0_7 a0_8 a0_9 a0_10 a0_11 a1).bind fun bt375 => ((laws_markIntS.f k l0_12 bt375.1).bind fun bt379 => (some (bt379.1, bt375.2.1, bt375.2.2.1, bt375.2.2.2, bt379.2)))
theorem laws_markWorld.mono : ∀ a0 a1 a2 a3 a4 a5 a6 a7 a8 a9 a10 a11 a12 a13 a14 a15 a16 k, LeO (laws_markWorld.f k a0 a1 a2 a3 a4 a5 a6 a7 a8 a9 a10 a11 a12 a13 a14 a15 a16) (laws_markWorld.f (k + 1) a0 a1 a2 a3 a4 a5 a6 a7 a8 a9 a10 a11 a12 a13 a14 a15 a16) := by
 intro a0 a1 a2 a3 a4 a5 a6 a7 a8 a9 a10 a11 a12 a13 a14 a15 a16 k
 unfold laws_markWorld.f
 have m0 := @laws_markIntS.mono
 have m1 := @laws_markSetup.mono
 exact Pst.mo
theorem laws_markWorld.calls (k : Nat) (a0_0 : Int) (a0_1 : Int) (a0_2 : Int) (P0_3_ : Nat → Prop) (u9000_ : Value) (l0_3 : List (S82)) (P0_4_ : Nat → Prop) (u9001_ : Value) (l0_4 : List (S102)) (a0_5 : Int) (a0_6 : Int) (P0_7_ : Nat → Prop) (u9002_ : Value) (l0_7 : List (S102)) (a0_8 : Int) (a0_9 : Int) (a0_10 : Int) (a0_11 : Int) (P0_12_ : Nat → Prop) (u9003_ : Value) (l0_12 : List Int) (a0_13 : Int) (a0_14 : Int) (a0_15 : Int) (a1 : Int) (r1 : Int) (r2 : List (S82)) (r3 : List (S102)) (r4 : List (S102)) (r5 : List Int) (w0 w : World) (hB : Below w0.heap.size w0 w) (ho0_3 : Kd.R k82 82 w w0.heap.size P0_3_ u9000_ l0_3) (ho0_4 : Kd.R k102 102 w w0.heap.size P0_4_ u9001_ l0_4) (hp0_4_0_7 : ∀ k_, P0_4_ k_ → ¬ P0_7_ k_) (ho0_7 : Kd.R k102 102 w w0.heap.size P0_7_ u9002_ l0_7) (hp0_7_0_4 : ∀ k_, P0_7_ k_ → ¬ P0_4_ k_) (ho0_12 : Kd.R (Kd.int .i64) 3 w w0.heap.size P0_12_ u9003_ l0_12) (h : laws_markWorld.f k a0_0 a0_1 a0_2 l0_3 l0_4 a0_5 a0_6 l0_7 a0_8 a0_9 a0_10 a0_11 l0_12 a0_13 a0_14 a0_15 a1 = some (r1, r2, r3, r4, r5)) :
    Calls Tryz.prog 11 #[.agg #[.int .i64 a0_0, .int .i64 a0_1, .int .i64 a0_2, u9000_, u9001_, .int .i64 a0_5, .int .i64 a0_6, u9002_, .int .i64 a0_8, .int .i64 a0_9, .int .i64 a0_10, .int .i64 a0_11, u9003_, .int .i64 a0_13, .int .i64 a0_14, .int .i64 a0_15], .int .i64 a1] w fun e w' => e = .returned (.int .i64 r1) ∧ Kd.R k82 82 w' w0.heap.size (fun k_ => ((P0_3_ k_ ∨ P0_4_ k_ ∨ P0_7_ k_ ∨ P0_12_ k_) ∨ w.heap.size ≤ k_)) u9000_ r2 ∧ Kd.R k102 102 w' w0.heap.size (fun k_ => ((P0_3_ k_ ∨ P0_4_ k_ ∨ P0_7_ k_ ∨ P0_12_ k_) ∨ w.heap.size ≤ k_)) u9001_ r3 ∧ Kd.R k102 102 w' w0.heap.size (fun k_ => ((P0_3_ k_ ∨ P0_4_ k_ ∨ P0_7_ k_ ∨ P0_12_ k_) ∨ w.heap.size ≤ k_)) u9002_ r4 ∧ Kd.R (Kd.int .i64) 3 w' w0.heap.size (fun k_ => ((P0_3_ k_ ∨ P0_4_ k_ ∨ P0_7_ k_ ∨ P0_12_ k_) ∨ w.heap.size ≤ k_)) u9003_ r5 ∧ Below w0.heap.size w0 w' ∧ Kept w w' (fun k_ => P0_3_ k_ ∨ P0_4_ k_ ∨ P0_7_ k_ ∨ P0_12_ k_) := by
 have hu44 := Tryz.underlying44
 have hu41 := Tryz.underlying41
 have HO0_3 := Pst.A (show Kd.R k82 82 w w0.heap.size (fun k_ => ((P0_3_ k_ ∨ P0_4_ k_ ∨ P0_7_ k_ ∨ P0_12_ k_) ∨ w.heap.size ≤ k_)) u9000_ l0_3 from Kd.R_mono ho0_3 (fun k_ hk => (.inl (.inl hk))))
 have HO0_4 := Pst.A (show Kd.R k102 102 w w0.heap.size (fun k_ => ((P0_3_ k_ ∨ P0_4_ k_ ∨ P0_7_ k_ ∨ P0_12_ k_) ∨ w.heap.size ≤ k_) ∧ some k_ ≠ (u9002_ : Value).ownBlock) u9001_ l0_4 from Kd.R_mono ho0_4 (fun k_ hk => ⟨(.inl (.inr (.inl hk))), fun e_ => hp0_4_0_7 k_ hk (ho0_7.1 k_ e_.symm)⟩))
 have HO0_7 := Pst.A (show Kd.R k102 102 w w0.heap.size (fun k_ => ((P0_3_ k_ ∨ P0_4_ k_ ∨ P0_7_ k_ ∨ P0_12_ k_) ∨ w.heap.size ≤ k_) ∧ some k_ ≠ (u9001_ : Value).ownBlock) u9002_ l0_7 from Kd.R_mono ho0_7 (fun k_ hk => ⟨(.inl (.inr (.inr (.inl hk)))), fun e_ => hp0_7_0_4 k_ hk (ho0_4.1 k_ e_.symm)⟩))
 have HO0_12 := Pst.A (show Kd.R (Kd.int .i64) 3 w w0.heap.size (fun k_ => ((P0_3_ k_ ∨ P0_4_ k_ ∨ P0_7_ k_ ∨ P0_12_ k_) ∨ w.heap.size ≤ k_)) u9003_ l0_12 from Kd.R_mono ho0_12 (fun k_ hk => (.inl (.inr (.inr (.inr hk))))))
 have HK := Pst.A (Kept.refl w (fun k_ => P0_3_ k_ ∨ P0_4_ k_ ∨ P0_7_ k_ ∨ P0_12_ k_))
 have HW0 := Pst.A hB.size
 have HB := Pst.A hB
 clear hB
 have H : ((laws_markSetup.f k a0_0 a0_1 a0_2 l0_3 l0_4 a0_5 a0_6 l0_7 a0_8 a0_9 a0_10 a0_11 a1).bind fun bt375 => ((laws_markIntS.f k l0_12 bt375.1).bind fun bt379 => (some (bt379.1, bt375.2.1, bt375.2.2.1, bt375.2.2.2, bt379.2)))) = some (r1, r2, r3, r4, r5) := h
 clear h
 obtain ⟨⟨t375, t376, t377, t378⟩, A30, H⟩ := Pst.bd H
 replace H : ((laws_markIntS.f k l0_12 t375).bind fun bt379 => (some (bt379.1, t376, t377, t378, bt379.2))) = some (r1, r2, r3, r4, r5) := H
 have A3 := Pst.A A30
 clear A30
 obtain ⟨⟨t379, t380⟩, A40, H⟩ := Pst.bd H
 replace H : (some (t379, t376, t377, t378, t380)) = some (r1, r2, r3, r4, r5) := H
 have A4 := Pst.A A40
 clear A40
 simp only [Option.some.injEq, Prod.mk.injEq] at H
 obtain ⟨rfl, rfl, rfl, rfl, rfl⟩ := H
 obtain ⟨Ao5, co5, eo5⟩ := Kd.R_slice HO0_3.out
 subst eo5
 obtain ⟨Ao6, co6, eo6⟩ := Kd.R_slice HO0_4.out
 subst eo6
 obtain ⟨Ao7, co7, eo7⟩ := Kd.R_slice HO0_7.out
 subst eo7
 obtain ⟨Ao8, co8, eo8⟩ := Kd.R_slice HO0_12.out
 subst eo8
 go_enter Tryz.func11, Tryz.ntmps11
 go_wp2_with (first | ((with_reducible refine gate_dst (N := 2) rfl ?_); refine Pst.bx 2 #[.int .i64 a0_0, .int .i64 a0_1, .int .i64 a0_2, .slice Ao5 l0_3.length co5, .slice Ao6 l0_4.length co6, .int .i64 a0_5, .int .i64 a0_6, .slice Ao7 l0_7.length co7, .int .i64 a0_8, .int .i64 a0_9, .int .i64 a0_10, .int .i64 a0_11, .slice Ao8 l0_12.length co8, .int .i64 a0_13, .int .i64 a0_14, .int .i64 a0_15] 44 ?_; intro gb374 hg w9 hbox hb; have BK374 := Pst.A hbox; have GW374 := Pst.A ((by rw [hg]; exact (by first | exact HK.out.1 | exact (show Kept w _ (fun k_ => P0_3_ k_ ∨ P0_4_ k_ ∨ P0_7_ k_ ∨ P0_12_ k_) from by repeat (first | (with_reducible first | exact HK.out | apply Kept.alloc | apply Kept.drewN | apply Kept.drew) | exact HK.out)).1) : w.heap.size ≤ gb374)); have GE374 := Pst.A ((by rw [hg]; exact (below_size Pst.bel) : w0.heap.size ≤ gb374)); replace HO0_3 := Pst.A (Kd.R_below (Pst.qr HO0_3.out) hb); replace HO0_4 := Pst.A (Kd.R_below (Pst.qr HO0_4.out) hb); replace HO0_7 := Pst.A (Kd.R_below (Pst.qr HO0_7.out) hb); replace HO0_12 := Pst.A (Kd.R_below (Pst.qr HO0_12.out) hb); replace HK := Pst.A (Kept.below (S := (fun k_ => P0_3_ k_ ∨ P0_4_ k_ ∨ P0_7_ k_ ∨ P0_12_ k_)) (by repeat (first | (with_reducible first | exact HK.out | apply Kept.alloc | apply Kept.drewN | apply Kept.drew) | exact HK.out)) hb); replace HB := Pst.A (below_step Pst.bel hb); clear hb hbox hg; obtain ⟨_,_,_,_,_,_,_,_,_,_,_,_,_,_,_,_⟩ := Pst.c16 BK374.out; obtain ⟨_,_,_,_,_,_,_,_,_,_,_,_,_,_,_,_⟩ := Pst.f16 BK374.out) | ((with_reducible refine gate_callee (f := 10) rfl ?_); refine goesL_ (some 8) rfl rfl Tryz.func10 (by kernel_rfl) rfl #[.agg #[.int .i64 a0_0, .int .i64 a0_1, .int .i64 a0_2, .slice Ao5 l0_3.length co5, .slice Ao6 l0_4.length co6, .int .i64 a0_5, .int .i64 a0_6, .slice Ao7 l0_7.length co7, .int .i64 a0_8, .int .i64 a0_9, .int .i64 a0_10, .int .i64 a0_11], .int .i64 a1] rfl Pst.ga ?_; (with_reducible refine (laws_markSetup.calls k a0_0 a0_1 a0_2 (fun k_ => some k_ = (.slice Ao5 l0_3.length co5 : Value).ownBlock) (.slice Ao5 l0_3.length co5) l0_3 (fun k_ => some k_ = (.slice Ao6 l0_4.length co6 : Value).ownBlock) (.slice Ao6 l0_4.length co6) l0_4 a0_5 a0_6 (fun k_ => some k_ = (.slice Ao7 l0_7.length co7 : Value).ownBlock) (.slice Ao7 l0_7.length co7) l0_7 a0_8 a0_9 a0_10 a0_11 a1 t375 t376 t377 t378 w0 _ ?side1 ?side2 ?side3 ?side4 ?side5 ?side6 A3.out).mono ?_); (case side1 => repeat (first | (with_reducible first | exact HB.out | apply below_alloc | apply pw_below_drewN | apply below_drew1 | refine below_set ?_ GE374.out) | exact HB.out)); (case side2 => exact Kd.R_tight rfl HO0_3.out); (case side3 => exact Kd.R_tight rfl HO0_4.out); (case side4 => exact fun k_ e_ => (HO0_4.out.1 k_ e_.symm).2); (case side5 => exact Kd.R_tight rfl HO0_7.out); (case side6 => exact fun k_ e_ => (HO0_7.out.1 k_ e_.symm).2); rintro e w11 ⟨rfl, hy0, hy1, hy2, hb, hkp⟩; refine ⟨_, rfl, ?_⟩; replace HO0_12 := Pst.A (Kd.R_mono (ok' := fun k_ => ((P0_3_ k_ ∨ P0_4_ k_ ∨ P0_7_ k_ ∨ P0_12_ k_) ∨ w.heap.size ≤ k_)) (Kd.R_keptB ((Kd.R_apart' (Kd.R_apart' (Kd.R_apart' HO0_12.out (Kd.R_typed HO0_3.out) (by decide)) (Kd.R_typed HO0_4.out) (by decide)) (Kd.R_typed HO0_7.out) (by decide))) hkp (fun k_ hk_ hs_ => Or.elim hs_ (fun e_ => (hk_.1.1.2) e_) (fun e_ => Or.elim e_ (fun e_ => (hk_.1.2) e_) (fun e_ => (hk_.2) e_)))) (fun k_ hk_ => hk_.1.1.1.1)); replace BK374 := Pst.A (blk_kept (Pst.qb BK374.out) hkp (fun hs_ => Or.elim hs_ (fun e_ => (fun e_ => (Kd.R_ne HO0_3.out BK374.out (by decide)) e_) e_) (fun e_ => Or.elim e_ (fun e_ => (fun e_ => (Kd.R_ne HO0_4.out BK374.out (by decide)) e_) e_) (fun e_ => (fun e_ => (Kd.R_ne HO0_7.out BK374.out (by decide)) e_) e_)))); replace HK := Pst.A (Kept.then_ (S := (fun k_ => P0_3_ k_ ∨ P0_4_ k_ ∨ P0_7_ k_ ∨ P0_12_ k_)) (by repeat (first | (with_reducible first | exact HK.out | apply Kept.alloc | apply Kept.drewN | apply Kept.drew | refine Kept.setCell ?_ (.inr GW374.out) _) | exact HK.out)) hkp (fun k_ hs_ => Or.elim hs_ (fun e_ => (fun e_ => (HO0_3.out.1 k_ e_.symm)) e_) (fun e_ => Or.elim e_ (fun e_ => (fun e_ => (HO0_4.out.1 k_ e_.symm).1) e_) (fun e_ => (fun e_ => (HO0_7.out.1 k_ e_.symm).1) e_)))); replace HO0_3 := Pst.A (Kd.R_reok rfl hy0 (fun k_ e_ => HO0_3.out.1 k_ e_)); replace HO0_4 := Pst.A (Kd.R_reok rfl hy1 (fun k_ e_ => HO0_4.out.1 k_ e_)); replace HO0_7 := Pst.A (Kd.R_reok rfl hy2 (fun k_ e_ => HO0_7.out.1 k_ e_)); replace HB := Pst.A hb; (try clear hb); (try clear hkp); (try clear hy0); (try clear hy1); (try clear hy2); obtain ⟨_,_,_,_,_,_,_,_,_,_,_,_,_,_,_,_⟩ := Pst.c16 BK374.out; obtain ⟨_,_,_,_,_,_,_,_,_,_,_,_,_,_,_,_⟩ := Pst.f16 BK374.out) | ((with_reducible refine gate_callee (f := 37) rfl ?_); refine goesL_ (some 12) rfl rfl Tryz.func37 (by kernel_rfl) rfl #[.slice Ao8 l0_12.length co8, .int .i64 t375] rfl Pst.ga ?_; (with_reducible refine (laws_markIntS.calls k (fun k_ => some k_ = (.slice Ao8 l0_12.length co8 : Value).ownBlock) (.slice Ao8 l0_12.length co8) l0_12 t375 t379 t380 w0 _ ?side1 ?side2 A4.out).mono ?_); (case side1 => repeat (first | (with_reducible first | exact HB.out | apply below_alloc | apply pw_below_drewN | apply below_drew1 | refine below_set ?_ GE374.out) | exact HB.out)); (case side2 => exact Kd.R_tight rfl HO0_12.out); rintro e w13 ⟨rfl, hy0, hb, hkp⟩; refine ⟨_, rfl, ?_⟩; replace HO0_3 := Pst.A (Kd.R_mono (ok' := fun k_ => ((P0_3_ k_ ∨ P0_4_ k_ ∨ P0_7_ k_ ∨ P0_12_ k_) ∨ w.heap.size ≤ k_)) (Kd.R_keptB ((Kd.R_apart' HO0_3.out (Kd.R_typed HO0_12.out) (by decide))) hkp (fun k_ hk_ hs_ => (hk_.2) hs_)) (fun k_ hk_ => hk_.1.1)); replace HO0_4 := Pst.A (Kd.R_mono (ok' := fun k_ => ((P0_3_ k_ ∨ P0_4_ k_ ∨ P0_7_ k_ ∨ P0_12_ k_) ∨ w.heap.size ≤ k_) ∧ some k_ ≠ (.slice Ao7 l0_7.length co7 : Value).ownBlock) (Kd.R_keptB ((Kd.R_apart' HO0_4.out (Kd.R_typed HO0_12.out) (by decide))) hkp (fun k_ hk_ hs_ => (hk_.2) hs_)) (fun k_ hk_ => ⟨hk_.1.1.1, hk_.1.1.2⟩)); replace HO0_7 := Pst.A (Kd.R_mono (ok' := fun k_ => ((P0_3_ k_ ∨ P0_4_ k_ ∨ P0_7_ k_ ∨ P0_12_ k_) ∨ w.heap.size ≤ k_) ∧ some k_ ≠ (.slice Ao6 l0_4.length co6 : Value).ownBlock) (Kd.R_keptB ((Kd.R_apart' HO0_7.out (Kd.R_typed HO0_12.out) (by decide))) hkp (fun k_ hk_ hs_ => (hk_.2) hs_)) (fun k_ hk_ => ⟨hk_.1.1.1, hk_.1.1.2⟩)); replace BK374 := Pst.A (blk_kept (Pst.qb BK374.out) hkp (fun hs_ => (fun e_ => (Kd.R_ne HO0_12.out BK374.out (by decide)) e_) hs_)); replace HK := Pst.A (Kept.then_ (S := (fun k_ => P0_3_ k_ ∨ P0_4_ k_ ∨ P0_7_ k_ ∨ P0_12_ k_)) (by repeat (first | (with_reducible first | exact HK.out | apply Kept.alloc | apply Kept.drewN | apply Kept.drew | refine Kept.setCell ?_ (.inr GW374.out) _) | exact HK.out)) hkp (fun k_ hs_ => (fun e_ => (HO0_12.out.1 k_ e_.symm)) hs_)); replace HO0_12 := Pst.A (Kd.R_reok rfl hy0 (fun k_ e_ => HO0_12.out.1 k_ e_)); replace HB := Pst.A hb; (try clear hb); (try clear hkp); (try clear hy0)))
 go_ret
 exact ⟨Pst.e1, by (with_reducible repeat (first | apply Kd.R_alloc | apply Kd.R_drewN | apply Kd.R_drew)); exact HO0_3.out, by (with_reducible repeat (first | apply Kd.R_alloc | apply Kd.R_drewN | apply Kd.R_drew)); exact Kd.R_mono HO0_4.out (fun _ hk => hk.1), by (with_reducible repeat (first | apply Kd.R_alloc | apply Kd.R_drewN | apply Kd.R_drew)); exact Kd.R_mono HO0_7.out (fun _ hk => hk.1), by (with_reducible repeat (first | apply Kd.R_alloc | apply Kd.R_drewN | apply Kd.R_drew)); exact HO0_12.out, Pst.bes, by repeat (first | (with_reducible first | exact HK.out | apply Kept.alloc | apply Kept.drewN | apply Kept.drew | refine Kept.setCell ?_ (.inr GW374.out) _) | exact HK.out)⟩

/-! ### laws_heldGoalS: function 65 -/
def laws_heldGoalS.l0 : Nat → List (S82) → Int → Int → Option (Int)
 | 0, _, _, _ => none
 | k + 1, x0, x1, x5 => if x5 < (x0.length : Int) then (if 0 ≤ x5 then ((laws_markText.f k x1).bind fun t382 => (if ((rd_T82 x0 x5).f0).toList = t382.toList then (if ((rd_T82 x0 x5).f1) = (wrap64 (x1 + 1)) then (if ((rd_T82 x0 x5).f2) = (wrap64 ((wrap64 (x1 + 1)) + 1)) then (laws_heldGoalS.l0 k x0 (wrap64 ((wrap64 ((wrap64 (x1 + 1)) + 1)) + 1)) (wrap64 (x5 + 1))) else (some (-1))) else (some (-1))) else (some (-1)))) else (none)) else (some x1)
def laws_heldGoalS.f (k : Nat) (l0 : List (S82)) (a1 : Int) : Option (Int) := laws_heldGoalS.l0 k l0 a1 0
theorem laws_heldGoalS.mono_l : ∀ k, (∀ y0 y1 y2, LeO (laws_heldGoalS.l0 k y0 y1 y2) (laws_heldGoalS.l0 (k + 1) y0 y1 y2))
 | 0 => fun _ _ _ r h => by simp [laws_heldGoalS.l0] at h
 | k + 1 => by
  have ih0 := laws_heldGoalS.mono_l k
  intro y0 y1 y2
  unfold laws_heldGoalS.l0
  have m0 := @laws_markText.mono
  exact Pst.mo
theorem laws_heldGoalS.mono : ∀ a0 a1 k, LeO (laws_heldGoalS.f k a0 a1) (laws_heldGoalS.f (k + 1) a0 a1) := by
 intro a0 a1 k
 have ih0 := laws_heldGoalS.mono_l k
 unfold laws_heldGoalS.f
 have m0 := @laws_markText.mono
 exact Pst.mo
def laws_heldGoalS.T4 : Bool × List (List Nat × List Nat) := (true, [([], []), ([], []), ([0, 1], [0, 1]), ([2], [2]), ([3], [3]), ([], []), ([5], [5]), ([4, 6], [4, 6])])
def laws_heldGoalS.B4 : List Nat := [0, 0, 3, 7, 15, 0, 32, 127]
theorem laws_heldGoalS.tab4 : rtab .any (opsOf Tryz.f65 4) = laws_heldGoalS.T4 := by kernel_rfl
theorem laws_heldGoalS.bits4 : waitsOk laws_heldGoalS.T4.2 laws_heldGoalS.B4 = true := by kernel_rfl
theorem laws_heldGoalS.calls (k : Nat) (A0 : Option Addr) (c0 : Nat) (l0 : List (S82)) (a1 : Int) (r : Int) (w : World) (hr0 : Kd.C k82 w A0 l0.length l0) (hc0 : l0.length ≤ c0) (h : laws_heldGoalS.f k l0 a1 = some r) :
 Calls Tryz.prog 65 #[.slice A0 l0.length c0, .int .i64 a1] w fun e w' => e = .returned (.int .i64 r) ∧ Below w.heap.size w w' := by
 have HR0 := Pst.A hr0
 have HC0 := Pst.A hc0
 clear hr0 hc0
 have HB := Pst.A (Below.refl w.heap.size w)
 have H : (laws_heldGoalS.l0 k l0 a1 0) = some r := h
 clear h
 have H' := Pst.A H
 clear H
 go_enter Tryz.func65, Tryz.ntmps65
 go_wp2
 go_loopg [1, 5] k (fun kq v1 v5 w' => ∃ (x1_1 : Int) (x5_1 : Int), v1 = .int .i64 x1_1 ∧ v5 = .int .i64 x5_1 ∧ Aside0 (laws_heldGoalS.l0 kq l0 x1_1 x5_1 = some r) ∧ Aside0 (kq ≤ k) ∧ Aside0 (Below w.heap.size w w'))
 case atStart => exact ⟨(a1), (0), Pst.e2, Pst.e2, H', ⟨Nat.le_refl _⟩, ⟨Pst.bel⟩⟩
 clear H'
 try clear p2
 obtain ⟨x1_1, x5_1, rfl, rfl, HA, HK1, HB⟩ := hrel
 cases gk with
 | zero => exact absurd HA.out (by simp [laws_heldGoalS.l0])
 | succ k1 =>
  have H := HA.out
  clear HA
  simp only [laws_heldGoalS.l0] at H
  by_cases c3 : x5_1 < (l0.length : Int)
  ·rw [if_pos c3] at H
   have c3b0 : decide (x5_1 < (l0.length : Int)) = true := decide_eq_true c3
   clear c3
   by_cases c4 : 0 ≤ x5_1
   ·rw [if_pos c4] at H
    have c4b0 : decide (0 ≤ x5_1) = true := decide_eq_true c4
    clear c4
    obtain ⟨t382, A50, H⟩ := Pst.bd H
    have A5 := Pst.A A50
    clear A50
    by_cases c6 : ((rd_T82 l0 x5_1).f0).toList = t382.toList
    ·rw [if_pos c6] at H
     have c6b0 : (((rd_T82 l0 x5_1).f0).toList == t382.toList) = true := beq_iff_eq.mpr c6
     have c6b1 : (((rd_T82 l0 x5_1).f0).toList != t382.toList) = false := bne_eq_false_iff_eq.mpr c6
     clear c6
     by_cases c7 : ((rd_T82 l0 x5_1).f1) = (wrap64 (x1_1 + 1))
     ·rw [if_pos c7] at H
      have c7b0 : (((rd_T82 l0 x5_1).f1) == (wrap64 (x1_1 + 1))) = true := beq_iff_eq.mpr c7
      have c7b1 : (((rd_T82 l0 x5_1).f1) != (wrap64 (x1_1 + 1))) = false := bne_eq_false_iff_eq.mpr c7
      clear c7
      by_cases c8 : ((rd_T82 l0 x5_1).f2) = (wrap64 ((wrap64 (x1_1 + 1)) + 1))
      ·rw [if_pos c8] at H
       have c8b0 : (((rd_T82 l0 x5_1).f2) == (wrap64 ((wrap64 (x1_1 + 1)) + 1))) = true := beq_iff_eq.mpr c8
       have c8b1 : (((rd_T82 l0 x5_1).f2) != (wrap64 ((wrap64 (x1_1 + 1)) + 1))) = false := bne_eq_false_iff_eq.mpr c8
       clear c8
       have H' := Pst.A H
       clear H
       try go_wp2
       replace HB := Pst.A (below_drew1 HB.out)
       have p381 : 0 ≤ (x5_1 : Int) := Pst.da
       have q381 : x5_1 < (l0.length : Int) := Pst.da
       obtain ⟨ad381, e381, hx381_0, hx381_1, hx381_2⟩ := at_T82 HR0.out x5_1 p381 q381
       have hw381_2 := hx381_2
       have hw381_1 := hx381_1
       have hw381_0 := hx381_0
       cases e381
       replace hx381_0 := (HB.out.cell (World.block_lt_of_cell? w _ hx381_0)).trans hx381_0
       replace hx381_1 := (HB.out.cell (World.block_lt_of_cell? w _ hx381_1)).trans hx381_1
       replace hx381_2 := (HB.out.cell (World.block_lt_of_cell? w _ hx381_2)).trans hx381_2
       replace p381 := eq_true p381
       replace q381 := eq_true q381
       refine start_ (n := 8) (S := fun w' => w'.cell? (ad381.add ((x5_1).toNat * 3)) = some (.string ((rd_T82 l0 x5_1).f0)) ∧ w'.cell? ⟨(ad381.add ((x5_1).toNat * 3)).block, (ad381.add ((x5_1).toNat * 3)).off + 1, none⟩ = some (.int .i64 ((rd_T82 l0 x5_1).f1)) ∧ w'.cell? ⟨(ad381.add ((x5_1).toNat * 3)).block, (ad381.add ((x5_1).toNat * 3)).off + 2, none⟩ = some (.int .i64 ((rd_T82 l0 x5_1).f2))) (ds := []) #[false, false, false, false, false, false, false, false] (by kernel_rfl) rfl rfl ⟨((HB.out.cell (World.block_lt_of_cell? w _ hw381_0)).trans hw381_0), ((HB.out.cell (World.block_lt_of_cell? w _ hw381_1)).trans hw381_1), ((HB.out.cell (World.block_lt_of_cell? w _ hw381_2)).trans hw381_2)⟩ (fun hHeld => ?_); refine with_tabW laws_heldGoalS.tab4 laws_heldGoalS.bits4 (fun HT_ HW_ => ?_)
       generalize wr.drew = w9 at HB hx381_0 hx381_1 hx381_2 hHeld ⊢
       refine pure_ (i := 0) (N := some 12) (v := ?_) (a' := ?_) #[true, false, false, false, false, false, false, false] rfl rfl (any_of HT_.out (by kernel_rfl)) (fun _ _ _ h => h) (Or.inl ⟨by rfl, ?_⟩) ?_ ?_
       rotate_left
       ·intro w'
        go_simp
        with_reducible rfl
       rotate_left
       ·simp only [Pst.all]
        rfl
       refine pure_ (i := 1) (N := some 13) (v := ?_) (a' := ?_) #[true, true, false, false, false, false, false, false] rfl rfl (any_of HT_.out (by kernel_rfl)) (fun _ _ _ h => h) (Or.inl ⟨by rfl, ?_⟩) ?_ ?_
       rotate_left
       ·intro w'
        go_simp
        with_reducible rfl
       rotate_left
       ·simp only [Pst.all]
        rfl
       refine pure_ (i := 2) (N := some 14) (v := ?_) (a' := ?_) #[true, true, true, false, false, false, false, false] rfl rfl (any_of HT_.out (by kernel_rfl)) (fun _ _ _ h => h) (Or.inl ⟨by rfl, ?_⟩) ?_ ?_
       rotate_left
       ·intro w'
        go_simp
        with_reducible rfl
       rotate_left
       ·simp only [Pst.all]
        rfl
       refine pure_ (i := 3) (N := some 15) (v := ?_) (a' := ?_) #[true, true, true, true, false, false, false, false] rfl rfl (any_of HT_.out (by kernel_rfl)) (fun _ _ _ h => h) (Or.inl ⟨by rfl, ?_⟩) ?_ ?_
       rotate_left
       ·intro w'
        go_simp
        with_reducible rfl
       rotate_left
       ·simp only [Pst.all]
        rfl
       refine pure_ (i := 5) (N := some 17) (v := ?_) (a' := ?_) #[true, true, true, true, false, true, false, false] rfl rfl (any_of HT_.out (by kernel_rfl)) (fun _ _ _ h => h) (Or.inl ⟨by rfl, ?_⟩) ?_ ?_
       rotate_left
       ·intro w'
        go_simp
        with_reducible rfl
       rotate_left
       ·simp only [Pst.all]
        rfl
       refine take_ (i := 4) (N := some 16) (v := ?_) (a' := ?_) #[true, true, true, true, true, true, false, false] rfl rfl (take_ofW HT_.out HW_.out (by kernel_rfl)) (fun _ _ _ h => h) (Or.inl ⟨by rfl, ?_⟩) hHeld ?_ ?_
       rotate_left
       ·rintro w' ⟨s0, s1, s2⟩
        go_simp
        with_reducible rfl
       rotate_left
       ·simp only [Pst.all]
        rfl
       refine one_ (i := 6) (N := some 18) #[true, true, true, true, true, true, true, false] rfl rfl (one_of HT_.out (by kernel_rfl)) (by decide) (fun K hK => ?_)
       refine goes_ Tryz.func63 (by kernel_rfl) rfl #[.int .i64 x1_1] (by rfl) rfl rfl Pst.ga ?_
       with_reducible refine (laws_markText.calls k1 x1_1 t382 _ A5.out).mono ?_
       rintro e w10 ⟨rfl, hb⟩
       refine ⟨_, rfl, ?_⟩
       replace HB := Pst.A (below_step Pst.bel hb)
       (try clear hb)
       (try clear hb2)
       (try clear hk)
       (try clear hi)
       refine hK.out _ _ ⟨((HB.out.cell (World.block_lt_of_cell? w _ hw381_0)).trans hw381_0), ((HB.out.cell (World.block_lt_of_cell? w _ hw381_1)).trans hw381_1), ((HB.out.cell (World.block_lt_of_cell? w _ hw381_2)).trans hw381_2)⟩ (fun hHeld => ?_)
       clear hK K
       refine norm_ (a' := ?_) ?_ ?_
       rotate_left
       ·show Act.put _ (some 18) _ = _
        simp only [Pst.all]
        rfl
       refine pure_ (i := 7) (N := some 19) (v := ?_) (a' := ?_) #[true, true, true, true, true, true, true, true] rfl rfl (any_of HT_.out (by kernel_rfl)) (fun _ _ _ h => h) (Or.inl ⟨by rfl, ?_⟩) ?_ ?_
       rotate_left
       ·intro w'
        go_simp
        with_reducible rfl
       rotate_left
       ·simp only [Pst.all]
        rfl
       refine done_ (done_of HT_.out (by kernel_rfl)) ?_
       have p383 : 0 ≤ (x5_1 : Int) := Pst.da
       have q383 : x5_1 < (l0.length : Int) := Pst.da
       obtain ⟨ad383, e383, hx383_0, hx383_1, hx383_2⟩ := at_T82 HR0.out x5_1 p383 q383
       obtain rfl : ad381 = ad383 := (by injection e383)
       replace hx383_0 := (HB.out.cell (World.block_lt_of_cell? w _ hx383_0)).trans hx383_0
       replace hx383_1 := (HB.out.cell (World.block_lt_of_cell? w _ hx383_1)).trans hx383_1
       replace hx383_2 := (HB.out.cell (World.block_lt_of_cell? w _ hx383_2)).trans hx383_2
       replace p383 := eq_true p383
       replace q383 := eq_true q383
       have p384 : 0 ≤ (x5_1 : Int) := Pst.da
       have q384 : x5_1 < (l0.length : Int) := Pst.da
       obtain ⟨ad384, e384, hx384_0, hx384_1, hx384_2⟩ := at_T82 HR0.out x5_1 p384 q384
       obtain rfl : ad381 = ad384 := (by injection e384)
       replace hx384_0 := (HB.out.cell (World.block_lt_of_cell? w _ hx384_0)).trans hx384_0
       replace hx384_1 := (HB.out.cell (World.block_lt_of_cell? w _ hx384_1)).trans hx384_1
       replace hx384_2 := (HB.out.cell (World.block_lt_of_cell? w _ hx384_2)).trans hx384_2
       replace p384 := eq_true p384
       replace q384 := eq_true q384
       try go_wp2
       go_roundg k1
       case measure => have := HK1.out; omega
       case rel => exact ⟨(wrap64 ((wrap64 ((wrap64 (x1_1 + 1)) + 1)) + 1)), (wrap64 (x5_1 + 1)), Pst.e2, Pst.e2, H', ⟨by have := HK1.out; omega⟩, ⟨Pst.bel⟩⟩
      rw [if_neg c8] at H
      have c8b0 : (((rd_T82 l0 x5_1).f2) == (wrap64 ((wrap64 (x1_1 + 1)) + 1))) = false := beq_eq_false_iff_ne.mpr c8
      have c8b1 : (((rd_T82 l0 x5_1).f2) != (wrap64 ((wrap64 (x1_1 + 1)) + 1))) = true := bne_iff_ne.mpr c8
      obtain rfl := Option.some.inj H
      try go_wp2
      replace HB := Pst.A (below_drew1 HB.out)
      have p381 : 0 ≤ (x5_1 : Int) := Pst.da
      have q381 : x5_1 < (l0.length : Int) := Pst.da
      obtain ⟨ad381, e381, hx381_0, hx381_1, hx381_2⟩ := at_T82 HR0.out x5_1 p381 q381
      have hw381_2 := hx381_2
      have hw381_1 := hx381_1
      have hw381_0 := hx381_0
      cases e381
      replace hx381_0 := (HB.out.cell (World.block_lt_of_cell? w _ hx381_0)).trans hx381_0
      replace hx381_1 := (HB.out.cell (World.block_lt_of_cell? w _ hx381_1)).trans hx381_1
      replace hx381_2 := (HB.out.cell (World.block_lt_of_cell? w _ hx381_2)).trans hx381_2
      replace p381 := eq_true p381
      replace q381 := eq_true q381
      refine start_ (n := 8) (S := fun w' => w'.cell? (ad381.add ((x5_1).toNat * 3)) = some (.string ((rd_T82 l0 x5_1).f0)) ∧ w'.cell? ⟨(ad381.add ((x5_1).toNat * 3)).block, (ad381.add ((x5_1).toNat * 3)).off + 1, none⟩ = some (.int .i64 ((rd_T82 l0 x5_1).f1)) ∧ w'.cell? ⟨(ad381.add ((x5_1).toNat * 3)).block, (ad381.add ((x5_1).toNat * 3)).off + 2, none⟩ = some (.int .i64 ((rd_T82 l0 x5_1).f2))) (ds := []) #[false, false, false, false, false, false, false, false] (by kernel_rfl) rfl rfl ⟨((HB.out.cell (World.block_lt_of_cell? w _ hw381_0)).trans hw381_0), ((HB.out.cell (World.block_lt_of_cell? w _ hw381_1)).trans hw381_1), ((HB.out.cell (World.block_lt_of_cell? w _ hw381_2)).trans hw381_2)⟩ (fun hHeld => ?_); refine with_tabW laws_heldGoalS.tab4 laws_heldGoalS.bits4 (fun HT_ HW_ => ?_)
      generalize wr.drew = w11 at HB hx381_0 hx381_1 hx381_2 hHeld ⊢
      refine pure_ (i := 0) (N := some 12) (v := ?_) (a' := ?_) #[true, false, false, false, false, false, false, false] rfl rfl (any_of HT_.out (by kernel_rfl)) (fun _ _ _ h => h) (Or.inl ⟨by rfl, ?_⟩) ?_ ?_
      rotate_left
      ·intro w'
       go_simp
       with_reducible rfl
      rotate_left
      ·simp only [Pst.all]
       rfl
      refine pure_ (i := 1) (N := some 13) (v := ?_) (a' := ?_) #[true, true, false, false, false, false, false, false] rfl rfl (any_of HT_.out (by kernel_rfl)) (fun _ _ _ h => h) (Or.inl ⟨by rfl, ?_⟩) ?_ ?_
      rotate_left
      ·intro w'
       go_simp
       with_reducible rfl
      rotate_left
      ·simp only [Pst.all]
       rfl
      refine pure_ (i := 2) (N := some 14) (v := ?_) (a' := ?_) #[true, true, true, false, false, false, false, false] rfl rfl (any_of HT_.out (by kernel_rfl)) (fun _ _ _ h => h) (Or.inl ⟨by rfl, ?_⟩) ?_ ?_
      rotate_left
      ·intro w'
       go_simp
       with_reducible rfl
      rotate_left
      ·simp only [Pst.all]
       rfl
      refine pure_ (i := 3) (N := some 15) (v := ?_) (a' := ?_) #[true, true, true, true, false, false, false, false] rfl rfl (any_of HT_.out (by kernel_rfl)) (fun _ _ _ h => h) (Or.inl ⟨by rfl, ?_⟩) ?_ ?_
      rotate_left
      ·intro w'
       go_simp
       with_reducible rfl
      rotate_left
      ·simp only [Pst.all]
       rfl
      refine pure_ (i := 5) (N := some 17) (v := ?_) (a' := ?_) #[true, true, true, true, false, true, false, false] rfl rfl (any_of HT_.out (by kernel_rfl)) (fun _ _ _ h => h) (Or.inl ⟨by rfl, ?_⟩) ?_ ?_
      rotate_left
      ·intro w'
       go_simp
       with_reducible rfl
      rotate_left
      ·simp only [Pst.all]
       rfl
      refine take_ (i := 4) (N := some 16) (v := ?_) (a' := ?_) #[true, true, true, true, true, true, false, false] rfl rfl (take_ofW HT_.out HW_.out (by kernel_rfl)) (fun _ _ _ h => h) (Or.inl ⟨by rfl, ?_⟩) hHeld ?_ ?_
      rotate_left
      ·rintro w' ⟨s0, s1, s2⟩
       go_simp
       with_reducible rfl
      rotate_left
      ·simp only [Pst.all]
       rfl
      refine one_ (i := 6) (N := some 18) #[true, true, true, true, true, true, true, false] rfl rfl (one_of HT_.out (by kernel_rfl)) (by decide) (fun K hK => ?_)
      refine goes_ Tryz.func63 (by kernel_rfl) rfl #[.int .i64 x1_1] (by rfl) rfl rfl Pst.ga ?_
      with_reducible refine (laws_markText.calls k1 x1_1 t382 _ A5.out).mono ?_
      rintro e w12 ⟨rfl, hb⟩
      refine ⟨_, rfl, ?_⟩
      replace HB := Pst.A (below_step Pst.bel hb)
      (try clear hb)
      (try clear hb2)
      (try clear hk)
      (try clear hi)
      refine hK.out _ _ ⟨((HB.out.cell (World.block_lt_of_cell? w _ hw381_0)).trans hw381_0), ((HB.out.cell (World.block_lt_of_cell? w _ hw381_1)).trans hw381_1), ((HB.out.cell (World.block_lt_of_cell? w _ hw381_2)).trans hw381_2)⟩ (fun hHeld => ?_)
      clear hK K
      refine norm_ (a' := ?_) ?_ ?_
      rotate_left
      ·show Act.put _ (some 18) _ = _
       simp only [Pst.all]
       rfl
      refine pure_ (i := 7) (N := some 19) (v := ?_) (a' := ?_) #[true, true, true, true, true, true, true, true] rfl rfl (any_of HT_.out (by kernel_rfl)) (fun _ _ _ h => h) (Or.inl ⟨by rfl, ?_⟩) ?_ ?_
      rotate_left
      ·intro w'
       go_simp
       with_reducible rfl
      rotate_left
      ·simp only [Pst.all]
       rfl
      refine done_ (done_of HT_.out (by kernel_rfl)) ?_
      have p383 : 0 ≤ (x5_1 : Int) := Pst.da
      have q383 : x5_1 < (l0.length : Int) := Pst.da
      obtain ⟨ad383, e383, hx383_0, hx383_1, hx383_2⟩ := at_T82 HR0.out x5_1 p383 q383
      obtain rfl : ad381 = ad383 := (by injection e383)
      replace hx383_0 := (HB.out.cell (World.block_lt_of_cell? w _ hx383_0)).trans hx383_0
      replace hx383_1 := (HB.out.cell (World.block_lt_of_cell? w _ hx383_1)).trans hx383_1
      replace hx383_2 := (HB.out.cell (World.block_lt_of_cell? w _ hx383_2)).trans hx383_2
      replace p383 := eq_true p383
      replace q383 := eq_true q383
      have p384 : 0 ≤ (x5_1 : Int) := Pst.da
      have q384 : x5_1 < (l0.length : Int) := Pst.da
      obtain ⟨ad384, e384, hx384_0, hx384_1, hx384_2⟩ := at_T82 HR0.out x5_1 p384 q384
      obtain rfl : ad381 = ad384 := (by injection e384)
      replace hx384_0 := (HB.out.cell (World.block_lt_of_cell? w _ hx384_0)).trans hx384_0
      replace hx384_1 := (HB.out.cell (World.block_lt_of_cell? w _ hx384_1)).trans hx384_1
      replace hx384_2 := (HB.out.cell (World.block_lt_of_cell? w _ hx384_2)).trans hx384_2
      replace p384 := eq_true p384
      replace q384 := eq_true q384
      try go_wp2
      go_ret
      exact ⟨Pst.e1, Pst.bel⟩
     rw [if_neg c7] at H
     have c7b0 : (((rd_T82 l0 x5_1).f1) == (wrap64 (x1_1 + 1))) = false := beq_eq_false_iff_ne.mpr c7
     have c7b1 : (((rd_T82 l0 x5_1).f1) != (wrap64 (x1_1 + 1))) = true := bne_iff_ne.mpr c7
     obtain rfl := Option.some.inj H
     try go_wp2
     replace HB := Pst.A (below_drew1 HB.out)
     have p381 : 0 ≤ (x5_1 : Int) := Pst.da
     have q381 : x5_1 < (l0.length : Int) := Pst.da
     obtain ⟨ad381, e381, hx381_0, hx381_1, hx381_2⟩ := at_T82 HR0.out x5_1 p381 q381
     have hw381_2 := hx381_2
     have hw381_1 := hx381_1
     have hw381_0 := hx381_0
     cases e381
     replace hx381_0 := (HB.out.cell (World.block_lt_of_cell? w _ hx381_0)).trans hx381_0
     replace hx381_1 := (HB.out.cell (World.block_lt_of_cell? w _ hx381_1)).trans hx381_1
     replace hx381_2 := (HB.out.cell (World.block_lt_of_cell? w _ hx381_2)).trans hx381_2
     replace p381 := eq_true p381
     replace q381 := eq_true q381
     refine start_ (n := 8) (S := fun w' => w'.cell? (ad381.add ((x5_1).toNat * 3)) = some (.string ((rd_T82 l0 x5_1).f0)) ∧ w'.cell? ⟨(ad381.add ((x5_1).toNat * 3)).block, (ad381.add ((x5_1).toNat * 3)).off + 1, none⟩ = some (.int .i64 ((rd_T82 l0 x5_1).f1)) ∧ w'.cell? ⟨(ad381.add ((x5_1).toNat * 3)).block, (ad381.add ((x5_1).toNat * 3)).off + 2, none⟩ = some (.int .i64 ((rd_T82 l0 x5_1).f2))) (ds := []) #[false, false, false, false, false, false, false, false] (by kernel_rfl) rfl rfl ⟨((HB.out.cell (World.block_lt_of_cell? w _ hw381_0)).trans hw381_0), ((HB.out.cell (World.block_lt_of_cell? w _ hw381_1)).trans hw381_1), ((HB.out.cell (World.block_lt_of_cell? w _ hw381_2)).trans hw381_2)⟩ (fun hHeld => ?_); refine with_tabW laws_heldGoalS.tab4 laws_heldGoalS.bits4 (fun HT_ HW_ => ?_)
     generalize wr.drew = w13 at HB hx381_0 hx381_1 hx381_2 hHeld ⊢
     refine pure_ (i := 0) (N := some 12) (v := ?_) (a' := ?_) #[true, false, false, false, false, false, false, false] rfl rfl (any_of HT_.out (by kernel_rfl)) (fun _ _ _ h => h) (Or.inl ⟨by rfl, ?_⟩) ?_ ?_
     rotate_left
     ·intro w'
      go_simp
      with_reducible rfl
     rotate_left
     ·simp only [Pst.all]
      rfl
     refine pure_ (i := 1) (N := some 13) (v := ?_) (a' := ?_) #[true, true, false, false, false, false, false, false] rfl rfl (any_of HT_.out (by kernel_rfl)) (fun _ _ _ h => h) (Or.inl ⟨by rfl, ?_⟩) ?_ ?_
     rotate_left
     ·intro w'
      go_simp
      with_reducible rfl
     rotate_left
     ·simp only [Pst.all]
      rfl
     refine pure_ (i := 2) (N := some 14) (v := ?_) (a' := ?_) #[true, true, true, false, false, false, false, false] rfl rfl (any_of HT_.out (by kernel_rfl)) (fun _ _ _ h => h) (Or.inl ⟨by rfl, ?_⟩) ?_ ?_
     rotate_left
     ·intro w'
      go_simp
      with_reducible rfl
     rotate_left
     ·simp only [Pst.all]
      rfl
     refine pure_ (i := 3) (N := some 15) (v := ?_) (a' := ?_) #[true, true, true, true, false, false, false, false] rfl rfl (any_of HT_.out (by kernel_rfl)) (fun _ _ _ h => h) (Or.inl ⟨by rfl, ?_⟩) ?_ ?_
     rotate_left
     ·intro w'
      go_simp
      with_reducible rfl
     rotate_left
     ·simp only [Pst.all]
      rfl
     refine pure_ (i := 5) (N := some 17) (v := ?_) (a' := ?_) #[true, true, true, true, false, true, false, false] rfl rfl (any_of HT_.out (by kernel_rfl)) (fun _ _ _ h => h) (Or.inl ⟨by rfl, ?_⟩) ?_ ?_
     rotate_left
     ·intro w'
      go_simp
      with_reducible rfl
     rotate_left
     ·simp only [Pst.all]
      rfl
     refine take_ (i := 4) (N := some 16) (v := ?_) (a' := ?_) #[true, true, true, true, true, true, false, false] rfl rfl (take_ofW HT_.out HW_.out (by kernel_rfl)) (fun _ _ _ h => h) (Or.inl ⟨by rfl, ?_⟩) hHeld ?_ ?_
     rotate_left
     ·rintro w' ⟨s0, s1, s2⟩
      go_simp
      with_reducible rfl
     rotate_left
     ·simp only [Pst.all]
      rfl
     refine one_ (i := 6) (N := some 18) #[true, true, true, true, true, true, true, false] rfl rfl (one_of HT_.out (by kernel_rfl)) (by decide) (fun K hK => ?_)
     refine goes_ Tryz.func63 (by kernel_rfl) rfl #[.int .i64 x1_1] (by rfl) rfl rfl Pst.ga ?_
     with_reducible refine (laws_markText.calls k1 x1_1 t382 _ A5.out).mono ?_
     rintro e w14 ⟨rfl, hb⟩
     refine ⟨_, rfl, ?_⟩
     replace HB := Pst.A (below_step Pst.bel hb)
     (try clear hb)
     (try clear hb2)
     (try clear hk)
     (try clear hi)
     refine hK.out _ _ ⟨((HB.out.cell (World.block_lt_of_cell? w _ hw381_0)).trans hw381_0), ((HB.out.cell (World.block_lt_of_cell? w _ hw381_1)).trans hw381_1), ((HB.out.cell (World.block_lt_of_cell? w _ hw381_2)).trans hw381_2)⟩ (fun hHeld => ?_)
     clear hK K
     refine norm_ (a' := ?_) ?_ ?_
     rotate_left
     ·show Act.put _ (some 18) _ = _
      simp only [Pst.all]
      rfl
     refine pure_ (i := 7) (N := some 19) (v := ?_) (a' := ?_) #[true, true, true, true, true, true, true, true] rfl rfl (any_of HT_.out (by kernel_rfl)) (fun _ _ _ h => h) (Or.inl ⟨by rfl, ?_⟩) ?_ ?_
     rotate_left
     ·intro w'
      go_simp
      with_reducible rfl
     rotate_left
     ·simp only [Pst.all]
      rfl
     refine done_ (done_of HT_.out (by kernel_rfl)) ?_
     have p383 : 0 ≤ (x5_1 : Int) := Pst.da
     have q383 : x5_1 < (l0.length : Int) := Pst.da
     obtain ⟨ad383, e383, hx383_0, hx383_1, hx383_2⟩ := at_T82 HR0.out x5_1 p383 q383
     obtain rfl : ad381 = ad383 := (by injection e383)
     replace hx383_0 := (HB.out.cell (World.block_lt_of_cell? w _ hx383_0)).trans hx383_0
     replace hx383_1 := (HB.out.cell (World.block_lt_of_cell? w _ hx383_1)).trans hx383_1
     replace hx383_2 := (HB.out.cell (World.block_lt_of_cell? w _ hx383_2)).trans hx383_2
     replace p383 := eq_true p383
     replace q383 := eq_true q383
     try go_wp2
     go_ret
     exact ⟨Pst.e1, Pst.bel⟩
    rw [if_neg c6] at H
    have c6b0 : (((rd_T82 l0 x5_1).f0).toList == t382.toList) = false := beq_eq_false_iff_ne.mpr c6
    have c6b1 : (((rd_T82 l0 x5_1).f0).toList != t382.toList) = true := bne_iff_ne.mpr c6
    obtain rfl := Option.some.inj H
    try go_wp2
    replace HB := Pst.A (below_drew1 HB.out)
    have p381 : 0 ≤ (x5_1 : Int) := Pst.da
    have q381 : x5_1 < (l0.length : Int) := Pst.da
    obtain ⟨ad381, e381, hx381_0, hx381_1, hx381_2⟩ := at_T82 HR0.out x5_1 p381 q381
    have hw381_2 := hx381_2
    have hw381_1 := hx381_1
    have hw381_0 := hx381_0
    cases e381
    replace hx381_0 := (HB.out.cell (World.block_lt_of_cell? w _ hx381_0)).trans hx381_0
    replace hx381_1 := (HB.out.cell (World.block_lt_of_cell? w _ hx381_1)).trans hx381_1
    replace hx381_2 := (HB.out.cell (World.block_lt_of_cell? w _ hx381_2)).trans hx381_2
    replace p381 := eq_true p381
    replace q381 := eq_true q381
    refine start_ (n := 8) (S := fun w' => w'.cell? (ad381.add ((x5_1).toNat * 3)) = some (.string ((rd_T82 l0 x5_1).f0)) ∧ w'.cell? ⟨(ad381.add ((x5_1).toNat * 3)).block, (ad381.add ((x5_1).toNat * 3)).off + 1, none⟩ = some (.int .i64 ((rd_T82 l0 x5_1).f1)) ∧ w'.cell? ⟨(ad381.add ((x5_1).toNat * 3)).block, (ad381.add ((x5_1).toNat * 3)).off + 2, none⟩ = some (.int .i64 ((rd_T82 l0 x5_1).f2))) (ds := []) #[false, false, false, false, false, false, false, false] (by kernel_rfl) rfl rfl ⟨((HB.out.cell (World.block_lt_of_cell? w _ hw381_0)).trans hw381_0), ((HB.out.cell (World.block_lt_of_cell? w _ hw381_1)).trans hw381_1), ((HB.out.cell (World.block_lt_of_cell? w _ hw381_2)).trans hw381_2)⟩ (fun hHeld => ?_); refine with_tabW laws_heldGoalS.tab4 laws_heldGoalS.bits4 (fun HT_ HW_ => ?_)
    generalize wr.drew = w15 at HB hx381_0 hx381_1 hx381_2 hHeld ⊢
    refine pure_ (i := 0) (N := some 12) (v := ?_) (a' := ?_) #[true, false, false, false, false, false, false, false] rfl rfl (any_of HT_.out (by kernel_rfl)) (fun _ _ _ h => h) (Or.inl ⟨by rfl, ?_⟩) ?_ ?_
    rotate_left
    ·intro w'
     go_simp
     with_reducible rfl
    rotate_left
    ·simp only [Pst.all]
     rfl
    refine pure_ (i := 1) (N := some 13) (v := ?_) (a' := ?_) #[true, true, false, false, false, false, false, false] rfl rfl (any_of HT_.out (by kernel_rfl)) (fun _ _ _ h => h) (Or.inl ⟨by rfl, ?_⟩) ?_ ?_
    rotate_left
    ·intro w'
     go_simp
     with_reducible rfl
    rotate_left
    ·simp only [Pst.all]
     rfl
    refine pure_ (i := 2) (N := some 14) (v := ?_) (a' := ?_) #[true, true, true, false, false, false, false, false] rfl rfl (any_of HT_.out (by kernel_rfl)) (fun _ _ _ h => h) (Or.inl ⟨by rfl, ?_⟩) ?_ ?_
    rotate_left
    ·intro w'
     go_simp
     with_reducible rfl
    rotate_left
    ·simp only [Pst.all]
     rfl
    refine pure_ (i := 3) (N := some 15) (v := ?_) (a' := ?_) #[true, true, true, true, false, false, false, false] rfl rfl (any_of HT_.out (by kernel_rfl)) (fun _ _ _ h => h) (Or.inl ⟨by rfl, ?_⟩) ?_ ?_
    rotate_left
    ·intro w'
     go_simp
     with_reducible rfl
    rotate_left
    ·simp only [Pst.all]
     rfl
    refine pure_ (i := 5) (N := some 17) (v := ?_) (a' := ?_) #[true, true, true, true, false, true, false, false] rfl rfl (any_of HT_.out (by kernel_rfl)) (fun _ _ _ h => h) (Or.inl ⟨by rfl, ?_⟩) ?_ ?_
    rotate_left
    ·intro w'
     go_simp
     with_reducible rfl
    rotate_left
    ·simp only [Pst.all]
     rfl
    refine take_ (i := 4) (N := some 16) (v := ?_) (a' := ?_) #[true, true, true, true, true, true, false, false] rfl rfl (take_ofW HT_.out HW_.out (by kernel_rfl)) (fun _ _ _ h => h) (Or.inl ⟨by rfl, ?_⟩) hHeld ?_ ?_
    rotate_left
    ·rintro w' ⟨s0, s1, s2⟩
     go_simp
     with_reducible rfl
    rotate_left
    ·simp only [Pst.all]
     rfl
    refine one_ (i := 6) (N := some 18) #[true, true, true, true, true, true, true, false] rfl rfl (one_of HT_.out (by kernel_rfl)) (by decide) (fun K hK => ?_)
    refine goes_ Tryz.func63 (by kernel_rfl) rfl #[.int .i64 x1_1] (by rfl) rfl rfl Pst.ga ?_
    with_reducible refine (laws_markText.calls k1 x1_1 t382 _ A5.out).mono ?_
    rintro e w16 ⟨rfl, hb⟩
    refine ⟨_, rfl, ?_⟩
    replace HB := Pst.A (below_step Pst.bel hb)
    (try clear hb)
    (try clear hb2)
    (try clear hk)
    (try clear hi)
    refine hK.out _ _ ⟨((HB.out.cell (World.block_lt_of_cell? w _ hw381_0)).trans hw381_0), ((HB.out.cell (World.block_lt_of_cell? w _ hw381_1)).trans hw381_1), ((HB.out.cell (World.block_lt_of_cell? w _ hw381_2)).trans hw381_2)⟩ (fun hHeld => ?_)
    clear hK K
    refine norm_ (a' := ?_) ?_ ?_
    rotate_left
    ·show Act.put _ (some 18) _ = _
     simp only [Pst.all]
     rfl
    refine pure_ (i := 7) (N := some 19) (v := ?_) (a' := ?_) #[true, true, true, true, true, true, true, true] rfl rfl (any_of HT_.out (by kernel_rfl)) (fun _ _ _ h => h) (Or.inl ⟨by rfl, ?_⟩) ?_ ?_
    rotate_left
    ·intro w'
     go_simp
     with_reducible rfl
    rotate_left
    ·simp only [Pst.all]
     rfl
    refine done_ (done_of HT_.out (by kernel_rfl)) ?_
    try go_wp2
    go_ret
    exact ⟨Pst.e1, Pst.bel⟩
   rw [if_neg c4] at H
   exact absurd H (by simp)
  rw [if_neg c3] at H
  have c3b0 : decide (x5_1 < (l0.length : Int)) = false := decide_eq_false c3
  clear c3
  obtain rfl := Option.some.inj H
  go_wp2
  go_ret
  exact ⟨Pst.e1, Pst.bel⟩
theorem laws_heldGoalS.l0.st {x0 : List (S82)} {x1 : Int} {x5 : Int} {r : (Int)} (H : Ev (fun k => if x5 < (x0.length : Int) then (if 0 ≤ x5 then ((laws_markText.f k x1).bind fun t382 => (if ((rd_T82 x0 x5).f0).toList = t382.toList then (if ((rd_T82 x0 x5).f1) = (wrap64 (x1 + 1)) then (if ((rd_T82 x0 x5).f2) = (wrap64 ((wrap64 (x1 + 1)) + 1)) then (laws_heldGoalS.l0 k x0 (wrap64 ((wrap64 ((wrap64 (x1 + 1)) + 1)) + 1)) (wrap64 (x5 + 1))) else (some (-1))) else (some (-1))) else (some (-1)))) else (none)) else (some x1)) r) : Ev (fun k => laws_heldGoalS.l0 k x0 x1 x5) r := Ev.step (fun k => laws_heldGoalS.l0.eq_2 x0 x1 x5 k) H

end Go.Proofs.YtapckgibbhijeaaGreatDoor.PA
