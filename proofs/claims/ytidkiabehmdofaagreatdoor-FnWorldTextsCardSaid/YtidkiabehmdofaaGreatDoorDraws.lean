/- The draws of a world: each ends and answers some world with one goal at the most, rules and loads in small numbers. No condition. -/
import Derived.Test.YtidkiabehmdofaaGreatDoorPAx7
import Derived.Test.YtidkiabehmdofaaGreatDoorDrawSetup
import Derived.Deep.RegionHeld3
import Derived.Deep.DeepCutAuto
namespace Go.Proofs.YtidkiabehmdofaaGreatDoor.PA
open Go.RowKit Go.Proofs.YtidkiabehmdofaaGreatDoorW.PrintWords Go.Proofs.YtidkiabehmdofaaGreatDoorW.PrintLast Go.Proofs.YtidkiabehmdofaaGreatDoorW.PrintMore Go.Proofs.YtidkiabehmdofaaGreatDoor.Aid
attribute [local go_sem] max2_int min2_int max_two min_two max_three min_three max_four min_four   -- for this text's walks alone
set_option linter.unusedVariables false
set_option linter.unusedSimpArgs false

/-- The cursor g over the bytes b, somewhere on its way, at the world W: what lay at w is as it was but for the cursor. -/
def Cur (w0 w W : World) (g : Nat) (b : List Int) : Prop := g < w.heap.size ∧ ∃ i h, CurOk b i ∧ IsS81 w0 W g b i h ∧ Below w0.heap.size w0 W ∧ KeepBut w W g none
theorem Cur.drewN {w0 w W : World} {g : Nat} {b : List Int} (h : Cur w0 w W g b) (m : Nat) : Cur w0 w (W.drewN m) g b := by
  obtain ⟨q, i, j, c, a, d, e⟩ := h
  exact ⟨q, i, j, c, IsS81.drewN a m, pw_below_drewN d m, keep_drewN e m⟩
theorem Cur.drew {w0 w W : World} {g : Nat} {b : List Int} (h : Cur w0 w W g b) : Cur w0 w W.drew g b := by
  obtain ⟨q, i, j, c, a, d, e⟩ := h
  exact ⟨q, i, j, c, IsS81.drew a, below_drew1 d, keep_drew e⟩
theorem Cur.below {w0 w W W1 : World} {g : Nat} {b : List Int} (h : Cur w0 w W g b) (hb : Below W.heap.size W W1) : Cur w0 w W1 g b := by
  obtain ⟨q, i, j, c, a, d, e⟩ := h
  exact ⟨q, i, j, c, IsS81.below a hb, below_step d hb, e.trans (KeepBut.of_below hb g none) (.inl rfl)⟩
theorem Cur.size {w0 w W : World} {g : Nat} {b : List Int} (h : Cur w0 w W g b) : w.heap.size ≤ W.heap.size := by
  obtain ⟨q, i, j, c, a, d, e⟩ := h
  exact e.1
theorem Cur.grown {w0 w W W1 : World} {g : Nat} {row : Option Nat} {b : List Int} (h : Cur w0 w W g b) (hg : W.grownBy W1 row) (hx : ∀ x, row = some x → w.heap.size ≤ x) : Cur w0 w W1 g b := by
  obtain ⟨q, i, j, c, a, d, e⟩ := h
  have h1 := IsS81.ge a
  refine ⟨q, i, j, c, IsS81.grown a hg (fun e_ => by have := hx g e_.symm; omega), pw_below_grown d row d.size hg (fun k_ hk_ => by have := hx k_ hk_; omega), e.trans (KeepBut.of_grown hg g) ?_⟩
  cases row with
  | none => exact .inl rfl
  | some x => exact .inr ⟨x, rfl, hx x rfl⟩
theorem Cur.set {w0 w W : World} {g : Nat} {b : List Int} (h : Cur w0 w W g b) {x j : Nat} (hx : w.heap.size ≤ x) (u : Value) : Cur w0 w (W.setCell ⟨x, j, none⟩ u) g b := by
  obtain ⟨q, i, j1, c, a, d, e⟩ := h
  have h1 := IsS81.ge a
  exact ⟨q, i, j1, c, IsS81.far a (show g ≠ x by omega) u, below_set d (by omega), keep_far e hx u⟩
theorem Cur.apart {w0 w W : World} {g : Nat} {b : List Int} (h : Cur w0 w W g b) {α : Type} {d : Kd α} {e base : Nat} {ok : Nat → Prop} {v : Value} {xs : List α} (ho : d.R e W base ok v xs) (ht : ∀ q, q ∈ e :: d.E → q ≠ 81) : d.R e W base (fun k => ok k ∧ k ≠ g) v xs := by
  obtain ⟨q, i, j, c, a, _, _⟩ := h
  exact IsS81.apart a ho ht
theorem Cur.bel {w0 w W : World} {g : Nat} {b : List Int} (h : Cur w0 w W g b) : Below w0.heap.size w0 W := by
  obtain ⟨_, _, _, _, _, d, _⟩ := h
  exact d
theorem cb {p : Prop} (h : p := by repeat (first | (with_reducible first | exact HC.out | apply Cur.drewN | apply Cur.drew) | exact HC.out)) : p := h
theorem sb {p : Prop} (h : p := by repeat (first | (with_reducible first | exact ST.out | apply St.drewN | apply St.drew) | exact ST.out)) : p := h

theorem curBelow {w0 w W : World} {g : Nat} {b : List Int} (h : Cur w0 w W g b) (n : Int) :
    Calls Tryz.prog 53 #[.pointer (some ⟨g, 0, none⟩), .int .i64 n] W fun e w' => ∃ x : Int, e = .returned (.int .i64 x) ∧ 0 ≤ x ∧ (0 < n → x < n) ∧ Cur w0 w w' g b ∧ KeepBut W w' g none := by
  obtain ⟨q, i, j, c, a, d, e⟩ := h
  obtain ⟨x, i1, h1, e1, x0, x1, _, c1⟩ := drawBelow b i j n c
  exact (spec_l01Below.calls g b i j n x i1 h1 w0 W a d e1).mono fun _ _ hq => ⟨x, hq.1, x0, x1, ⟨q, i1, h1, c1, hq.2.1, hq.2.2.1, e.trans hq.2.2.2 (.inl rfl)⟩, hq.2.2.2⟩
theorem curOnce {w0 w W : World} {g : Nat} {b : List Int} (h : Cur w0 w W g b) (n : Int) :
    Calls Tryz.prog 54 #[.pointer (some ⟨g, 0, none⟩), .int .i64 n] W fun e w' => ∃ x : Bool, e = .returned (.bool x) ∧ Cur w0 w w' g b ∧ KeepBut W w' g none := by
  obtain ⟨q, i, j, c, a, d, e⟩ := h
  obtain ⟨x, i1, h1, e1, c1⟩ := drawOnce b i j n c
  exact (spec_l01Once.calls g b i j n x i1 h1 w0 W a d e1).mono fun _ _ hq => ⟨x, hq.1, ⟨q, i1, h1, c1, hq.2.1, hq.2.2.1, e.trans hq.2.2.2 (.inl rfl)⟩, hq.2.2.2⟩
theorem curPick {w0 w W : World} {g base : Nat} {b : List Int} (h : Cur w0 w W g b) {A : Option Addr} {n : Nat} {l : List Int} {ok : Nat → Prop} (ho : Kd.R (Kd.int .i64) 3 W base ok (.slice A l.length n) l) (hl : 0 < l.length) :
    Calls Tryz.prog 52 #[.pointer (some ⟨g, 0, none⟩), .slice A l.length n] W fun e w' => ∃ x : Int, e = .returned (.int .i64 x) ∧ x ∈ l ∧ Cur w0 w w' g b ∧ KeepBut W w' g none := by
  obtain ⟨q, i, j, c, a, d, e⟩ := h
  obtain ⟨x, i1, h1, e1, hm, c1⟩ := drawPickInt b i j l c hl
  exact (spec_l01PickInt.calls g b i j A n l x i1 h1 w0 W a d (Kd.R_reads' ho).2.2 (Kd.R_reads' ho).2.1 (far_slice (IsS81.own_ne a ho (by decide))) e1).mono fun _ _ hq => ⟨x, hq.1, hm, ⟨q, i1, h1, c1, hq.2.1, hq.2.2.1, e.trans hq.2.2.2 (.inl rfl)⟩, hq.2.2.2⟩
theorem curSetup {w0 w W : World} {g : Nat} {b : List Int} (h : Cur w0 w W g b) :
    Calls Tryz.prog 51 #[.pointer (some ⟨g, 0, none⟩)] W fun e w' => ∃ (s1 s2 s3 : Int) (s4 : List S48) (s5 : List S101) (s6 s7 : Int) (s8 : List S101) (s9 s10 s11 s12 : Int) (v3 v4 v7 : Value),
      e = .returned (.agg #[.int .i64 s1, .int .i64 s2, .int .i64 s3, v3, v4, .int .i64 s6, .int .i64 s7, v7, .int .i64 s9, .int .i64 s10, .int .i64 s11, .int .i64 s12]) ∧
      (1 ≤ s4.length ∧ (∀ x ∈ s4, x.f0.size ≤ 3) ∧ s5.length ≤ 3 ∧ s8.length ≤ 3) ∧
      Kd.R k48 48 w' w.heap.size (fun _ => True) v3 s4 ∧ Kd.R k101 101 w' w.heap.size (fun _ => True) v4 s5 ∧ Kd.R k101 101 w' w.heap.size (fun _ => True) v7 s8 ∧ Cur w0 w w' g b ∧ KeepBut W w' g none := by
  obtain ⟨q, i, j, c, a, d, e⟩ := h
  obtain ⟨k, s1, s2, s3, s4, s5, s6, s7, s8, s9, s10, s11, s12, i1, h1, e1, l1, _, l3, l4, l5, c1⟩ := drawSetup b i j c
  exact (spec_l07DrawSetup.calls k g b i j s1 s2 s3 s4 s5 s6 s7 s8 s9 s10 s11 s12 i1 h1 w0 W a d e1).mono fun _ _ hq => by
    obtain ⟨v3, v4, v7, rfl, h3, h4, h7, hi, hb, hk⟩ := hq
    exact ⟨s1, s2, s3, s4, s5, s6, s7, s8, s9, s10, s11, s12, v3, v4, v7, rfl, ⟨l1, l3, l4, l5⟩, Kd.R_lower h3 e.1, Kd.R_mono (Kd.R_lower h4 e.1) (fun _ _ => trivial), Kd.R_mono (Kd.R_lower h7 e.1) (fun _ _ => trivial), ⟨q, i1, h1, c1, hi, hb, e.trans hk (.inl rfl)⟩, hk⟩

/-- The world that is drawn: its variable g4 holds the cells cs, its loads lie apart. -/
def St (w0 w wr W : World) (g : Nat) (b : List Int) (n g4 : Nat) (cs : Array Value) (v : Value) (xs : List Int) : Prop :=
  Cur w0 w W g b ∧ KeepBut wr W g none ∧ W.heap[g4]? = some (.cells cs 36 (0, 0)) ∧ Kd.R (Kd.int .i64) 3 W w.heap.size (fun k => n ≤ k) v xs ∧ wr.heap.size ≤ g4 ∧ g4 < n ∧ w.heap.size ≤ wr.heap.size ∧ n ≤ W.heap.size
section
variable {w0 w wr W W1 : World} {g : Nat} {b : List Int} {n g4 : Nat} {cs : Array Value} {v : Value} {xs : List Int}
theorem St.cur (h : St w0 w wr W g b n g4 cs v xs) : Cur w0 w W g b := h.1
theorem St.drewN (h : St w0 w wr W g b n g4 cs v xs) (m : Nat) : St w0 w wr (W.drewN m) g b n g4 cs v xs := by
  obtain ⟨a, c, d, e, f⟩ := h
  exact ⟨a.drewN m, keep_drewN c m, blk_drewN d m, Kd.R_drewN e m, f⟩
theorem St.drew (h : St w0 w wr W g b n g4 cs v xs) : St w0 w wr W.drew g b n g4 cs v xs := by
  obtain ⟨a, c, d, e, f⟩ := h
  exact ⟨a.drew, keep_drew c, blk_drew d, Kd.R_drew e, f⟩
theorem St.below (h : St w0 w wr W g b n g4 cs v xs) (hb : Below W.heap.size W W1) : St w0 w wr W1 g b n g4 cs v xs := by
  obtain ⟨a, c, d, e, f1, f2, f3, f4⟩ := h
  exact ⟨a.below hb, c.trans (KeepBut.of_below hb g none) (.inl rfl), blk_below d hb, Kd.R_below e hb, f1, f2, f3, Nat.le_trans f4 hb.size⟩
theorem St.keep (h : St w0 w wr W g b n g4 cs v xs) (hC : Cur w0 w W1 g b) (hk : KeepBut W W1 g none) : St w0 w wr W1 g b n g4 cs v xs := by
  obtain ⟨a, c, d, e, f1, f2, f3, f4⟩ := h
  have := hC.1
  exact ⟨hC, c.trans hk (.inl rfl), hk.blk d (by omega) (by simp), Kd.R_keep e hk (fun k h_ => by have h2_ : n ≤ k := h_; omega), f1, f2, f3, Nat.le_trans f4 hk.1⟩
theorem St.set (h : St w0 w wr W g b n g4 cs v xs) (j : Nat) (u : Value) : St w0 w wr (W.setCell ⟨g4, j, none⟩ u) g b n g4 (cs.setIfInBounds j u) v xs := by
  obtain ⟨a, c, d, e, f1, f2, f3, f4⟩ := h
  exact ⟨a.set (Nat.le_trans f3 f1) u, keep_far c f1 u, blk_set d j u, Kd.R_far (p := ⟨g4, j, none⟩) e (fun k h_ e_ => by have h1_ : k = g4 := e_; have h2_ : n ≤ k := h_; omega) u, f1, f2, f3, by simpa [World.setCell] using f4⟩
theorem St.blk (h : St w0 w wr W g b n g4 cs v xs) : W.heap[g4]? = some (.cells cs 36 (0, 0)) := h.2.2.1
theorem St.row (h : St w0 w wr W g b n g4 cs v xs) : Kd.R (Kd.int .i64) 3 W w.heap.size (fun k => n ≤ k) v xs := h.2.2.2.1
theorem St.old (h : St w0 w wr W g b n g4 cs v xs) {q : Nat} {o : Obj} (hb : wr.heap[q]? = some o) (hne : q ≠ g) : W.heap[q]? = some o := h.2.1.blk hb hne (by simp)
theorem St.top (h : St w0 w wr W g b n g4 cs v xs) : n ≤ W.heap.size := h.2.2.2.2.2.2.2
theorem St.low (h : St w0 w wr W g b n g4 cs v xs) : w.heap.size ≤ W.heap.size := Nat.le_trans h.2.2.2.2.2.2.1 h.2.1.1
theorem St.append (h : St w0 w wr W g b n g4 cs v xs) (hg : W.grownBy W1 v.ownBlock) {v1 : Value} {ys : List Int} (ho : Kd.R (Kd.int .i64) 3 W1 w.heap.size (fun k => n ≤ k) v1 ys) : St w0 w wr W1 g b n g4 cs v1 ys := by
  obtain ⟨a, c, d, e, f1, f2, f3, f4⟩ := h
  have h1 : ∀ x, v.ownBlock = some x → n ≤ x := e.1
  refine ⟨a.grown hg (fun x hx => by have := h1 x hx; omega), c.trans (KeepBut.of_grown hg g) ?_, blk_grown d hg (fun e_ => by have := h1 g4 e_.symm; omega), ho, f1, f2, f3, Nat.le_trans f4 hg.size⟩
  cases hv : v.ownBlock with
  | none => exact .inl rfl
  | some x => exact .inr ⟨x, rfl, by have := h1 x hv; omega⟩
theorem St.put {q m cap : Nat} (h : St w0 w wr W g b n g4 cs (.slice (some ⟨q, 0, none⟩) m cap) xs) (x : Int) : St w0 w wr (W.setCell ⟨q, 0, none⟩ (.int .i64 x)) g b n g4 cs (.slice (some ⟨q, 0, none⟩) m cap) (xs.set 0 x) := by
  obtain ⟨a, c, d, e, f1, f2, f3, f4⟩ := h
  have h1 : n ≤ q := e.1 q rfl
  exact ⟨a.set (by omega) _, keep_far c (show wr.heap.size ≤ q by omega) _, blk_far d (show g4 ≠ q by omega) _, Kd.R_putn e (0 : Int) x, f1, f2, f3, by simpa [World.setCell] using f4⟩
end
/-- What a draw answers. -/
def Drawn (w0 : World) (base : Nat) (e : Ending) (w' : World) : Prop := ∃ (s1 s2 s3 : Int) (s4 : List S48) (s5 : List S101) (s6 s7 : Int) (s8 : List S101) (s9 s10 s11 s12 : Int) (s13 : List Int) (s14 s15 s16 : Int) (v3 v4 v7 v12 : Value),
  e = .returned (.agg #[.int .i64 s1, .int .i64 s2, .int .i64 s3, v3, v4, .int .i64 s6, .int .i64 s7, v7, .int .i64 s9, .int .i64 s10, .int .i64 s11, .int .i64 s12, v12, .int .i64 s14, .int .i64 s15, .int .i64 s16]) ∧
  (s4.length ≤ 1 ∧ (∀ x ∈ s4, x.f0.size ≤ 3) ∧ s5.length ≤ 3 ∧ s8.length ≤ 3 ∧ s13.length ≤ 6) ∧
  Kd.R k48 48 w' base (fun _ => True) v3 s4 ∧ Kd.R k101 101 w' base (fun _ => True) v4 s5 ∧ Kd.R k101 101 w' base (fun _ => True) v7 s8 ∧ Kd.R (Kd.int .i64) 3 w' base (fun _ => True) v12 s13 ∧ Below w0.heap.size w0 w'
def spec_l12DrawWorld.T3 : Bool × List (List Nat × List Nat) := (true, [([], []), ([], []), ([], []), ([1, 2], [1, 2]), ([], []), ([4, 3], [4]), ([5], [5]), ([], []), ([7, 5], [7]), ([8], [8]), ([0, 3, 6, 9], [0, 3, 6, 9]), ([], []), ([11, 10, 8, 0, 1, 2, 3, 4, 5, 6, 7, 8, 9, 10, 11], [10, 11])])
def spec_l12DrawWorld.B3 : List Nat := [0, 0, 0, 6, 0, 30, 62, 0, 190, 446, 1023, 0, 4095]
theorem spec_l12DrawWorld.tab3 : rtab .any (opsOf Tryz.f33 3) = spec_l12DrawWorld.T3 := by kernel_rfl
theorem spec_l12DrawWorld.bits3 : waitsOk spec_l12DrawWorld.T3.2 spec_l12DrawWorld.B3 = true := by kernel_rfl
def spec_l12DrawWorld.T7 : Bool × List (List Nat × List Nat) := (true, [([], []), ([0], [0]), ([], []), ([2], [2]), ([3], [3]), ([1, 4, 3], [1, 4]), ([0, 1, 2, 3, 4, 5], []), ([6, 5, 5, 0, 1, 2, 3, 4, 5], [5, 6])])
def spec_l12DrawWorld.B7 : List Nat := [0, 1, 0, 4, 12, 31, 63, 127]
theorem spec_l12DrawWorld.tab7 : rtab .any (opsOf Tryz.f33 7) = spec_l12DrawWorld.T7 := by kernel_rfl
theorem spec_l12DrawWorld.bits7 : waitsOk spec_l12DrawWorld.T7.2 spec_l12DrawWorld.B7 = true := by kernel_rfl
def spec_l12DrawWorld.T13 : Bool × List (List Nat × List Nat) := (true, [([], []), ([0], [0]), ([], []), ([], []), ([2, 3], [2, 3]), ([1, 0, 1, 2, 3, 4], [1]), ([5, 4, 4, 0, 1, 2, 3, 4], [4, 5])])
def spec_l12DrawWorld.B13 : List Nat := [0, 1, 0, 0, 12, 31, 63]
theorem spec_l12DrawWorld.tab13 : rtab .any (opsOf Tryz.f33 13) = spec_l12DrawWorld.T13 := by kernel_rfl
theorem spec_l12DrawWorld.bits13 : waitsOk spec_l12DrawWorld.T13.2 spec_l12DrawWorld.B13 = true := by kernel_rfl

set_option maxHeartbeats 8000000 in
set_option maxRecDepth 100000 in
/-- A drawn world. -/
theorem spec_l12DrawWorld.draws (g : Nat) (bs : List Int) (w0 w : World) (hC : Cur w0 w w g bs) :
    Calls Tryz.prog 33 #[.pointer (some ⟨g, 0, none⟩)] w fun e w' => Drawn w0 w.heap.size e w' := by
  have hu33 := Tryz.underlying33
  have hu36 := Tryz.underlying36
  have NG := Aside0.mk hC.1
  have HC := Aside0.mk hC
  clear hC
  go_enter Tryz.func33, Tryz.ntmps33
  go_upto_region 2 with (first
    | ((with_reducible refine gate_dst (N := 2) rfl ?_); refine box_event ?hg (N := 2) ?hd (cs := #[.int .i64 0, .int .i64 0, .int .i64 0, .slice none 0 0, .slice none 0 0, .int .i64 0, .int .i64 0, .slice none 0 0, .int .i64 0, .int .i64 0, .int .i64 0, .int .i64 0, .slice none 0 0, .int .i64 0, .int .i64 0, .int .i64 0]) (t := 36) ?hr ?_; (case hd => rfl); (case hg => rfl); (case hr => first | (go_simp; done) | (go_simp; rfl)); intro g2 hg wa hbox hb; have GE2 := Aside0.mk (show w.heap.size ≤ g2 by rw [hg]; exact Cur.size cb); have m0_ := Aside0.mk (Cur.below cb hb); clear HC; have HC := m0_; clear m0_; have BK2 := Aside0.mk hbox; clear hb hbox hg; have NE2 := Aside0.mk (show g2 ≠ g from fun e_ => by have h1_ := GE2.out; have h2_ := NG.out; omega))
    | (go_at_call 51; refine (curSetup cb).mono ?_; rintro e wb ⟨s1, s2, s3, s4, s5, s6, s7, s8, s9, s10, s11, s12, v3, v4, v7, rfl, hs, hr3, hr4, hr7, hC, hk⟩; have m0_ := Aside0.mk (hC); have m1_ := Aside0.mk (hk.blk (Pst.qb BK2.out) NE2.out (by simp)); clear HC BK2; have HC := m0_; have BK2 := m1_; clear m0_ m1_; have HS := Aside0.mk hs; have HO3 := Aside0.mk hr3; have HO4 := Aside0.mk hr4; have HO7 := Aside0.mk hr7; clear hs hr3 hr4 hr7 hC hk)
    | ((with_reducible refine gate_dst (N := 3) rfl ?_); refine box_event ?hg (N := 3) ?hd (cs := #[.int .i64 0, .int .i64 0, .int .i64 0, .slice none 0 0, .slice none 0 0, .int .i64 0, .int .i64 0, .slice none 0 0, .int .i64 0, .int .i64 0, .int .i64 0, .int .i64 0]) (t := 33) ?hr ?_; (case hd => rfl); (case hg => rfl); (case hr => first | (go_simp; done) | (go_simp; rfl)); intro g3 hg wc hbox hb; have GE3 := Aside0.mk (show w.heap.size ≤ g3 by rw [hg]; exact Cur.size cb); have NE23 := Aside0.mk (show g2 ≠ g3 from by rw [hg]; exact Nat.ne_of_lt (blk_lt (Pst.qb BK2.out))); have m0_ := Aside0.mk (Cur.below cb hb); have m1_ := Aside0.mk (blk_below (Pst.qb BK2.out) hb); have m2_ := Aside0.mk (Kd.R_below (Pst.qr HO3.out) hb); have m3_ := Aside0.mk (Kd.R_below (Pst.qr HO4.out) hb); have m4_ := Aside0.mk (Kd.R_below (Pst.qr HO7.out) hb); clear HC BK2 HO3 HO4 HO7; have HC := m0_; have BK2 := m1_; have HO3 := m2_; have HO4 := m3_; have HO7 := m4_; clear m0_ m1_ m2_ m3_ m4_; have BK3 := Aside0.mk hbox; clear hb hbox hg; obtain ⟨A3, c3, e3⟩ := Kd.R_slice HO3.out; obtain ⟨A4, c4, e4⟩ := Kd.R_slice HO4.out; obtain ⟨A7, c7, e7⟩ := Kd.R_slice HO7.out; subst e3 e4 e7; have NE3 := Aside0.mk (show g3 ≠ g from fun e_ => by have h1_ := GE3.out; have h2_ := NG.out; omega))
    | ((with_reducible refine gate_ (.store 33 (.tmp 3) (.tmp 7)) rfl ?_); refine storeAll rfl 33 (.tmp 3) (.tmp 7) rfl g3 #[.int .i64 s1, .int .i64 s2, .int .i64 s3, .slice A3 s4.length c3, .slice A4 s5.length c4, .int .i64 s6, .int .i64 s7, .slice A7 s8.length c7, .int .i64 s9, .int .i64 s10, .int .i64 s11, .int .i64 s12] rfl rfl 33 #[.int .i64 0, .int .i64 0, .int .i64 0, .slice none 0 0, .slice none 0 0, .int .i64 0, .int .i64 0, .slice none 0 0, .int .i64 0, .int .i64 0, .int .i64 0, .int .i64 0] ?hb (by kernel_rfl) rfl (by simp [oneInt, oneSlice]) ?_; (case hb => exact Pst.qb BK3.out); intro ws hbs hgs; have m0_ := Aside0.mk (Cur.grown cb hgs (fun x_ e_ => by cases e_; exact GE3.out)); have m1_ := Aside0.mk (blk_grown (Pst.qb BK2.out) hgs (fun e_ => NE23.out (Option.some.inj e_))); have m2_ := Aside0.mk (Kd.R_mono (Kd.R_kept (Kd.R_types (Pst.qr HO3.out) (Pst.qb BK3.out) (by decide)) (S := fun k => k = g3) ⟨hgs.size, fun i hi hn => hgs.block i hi (fun he => hn (Option.some.inj he))⟩ (fun _ hk => hk.2)) (fun _ hk => hk.1)); have m3_ := Aside0.mk (Kd.R_mono (Kd.R_kept (Kd.R_types (Pst.qr HO4.out) (Pst.qb BK3.out) (by decide)) (S := fun k => k = g3) ⟨hgs.size, fun i hi hn => hgs.block i hi (fun he => hn (Option.some.inj he))⟩ (fun _ hk => hk.2)) (fun _ hk => hk.1)); have m4_ := Aside0.mk (Kd.R_mono (Kd.R_kept (Kd.R_types (Pst.qr HO7.out) (Pst.qb BK3.out) (by decide)) (S := fun k => k = g3) ⟨hgs.size, fun i hi hn => hgs.block i hi (fun he => hn (Option.some.inj he))⟩ (fun _ hk => hk.2)) (fun _ hk => hk.1)); have m5_ := Aside0.mk (hbs); clear HC BK2 HO3 HO4 HO7 BK3; have HC := m0_; have BK2 := m1_; have HO3 := m2_; have HO4 := m3_; have HO7 := m4_; have BK3 := m5_; clear m0_ m1_ m2_ m3_ m4_ m5_; clear hbs hgs))
  obtain ⟨hcz0, hcz1, hcz2, hcz3, hcz4, hcz5, hcz6, hcz7, hcz8, hcz9, hcz10, hcz11⟩ := Pst.c12 BK3.out
  obtain ⟨hfz0, hfz1, hfz2, hfz3, hfz4, hfz5, hfz6, hfz7, hfz8, hfz9, hfz10, hfz11⟩ := Pst.f12 BK3.out
  obtain ⟨y, hy⟩ : ∃ y_ : List S48, y_ = s4.take (1 : Int).toNat := ⟨_, rfl⟩
  have q19 : (1 : Int) ≤ ((s4.length : Int) : Int) := by have := HS.out.1; omega
  obtain ⟨i019, hi019, _, hsz19, _⟩ := info_parts info48
  have hcut19 := cut_to (P := Tryz.prog) 26 48 .i64 Tryz.underlying26 hi019 A3 s4.length c3 1 (by omega) q19 (Kd.R_reads' HO3.out).2.1
  have hr19 := Kd.R_take (m := (1 : Int).toNat) HO3.out (by omega)
  have hy19 : y.length = (1 : Int).toNat := by rw [hy, List.length_take]; omega
  rw [← hy] at hr19
  rw [← hy19] at hr19 hcut19
  have HY := Aside0.mk (show y.length ≤ 1 ∧ ∀ x ∈ y, x.f0.size ≤ 3 from ⟨Nat.le_of_eq hy19, fun x hx => HS.out.2.1 x (List.mem_of_mem_take (hy ▸ hx))⟩)
  clear hy19 hy hi019 hsz19 HO3
  have HO3 := Aside0.mk hr19
  clear hr19
  replace q19 := eq_true q19
  go_wp2
  have n0_ := Aside0.mk (show Cur w0 w (ws.setCell ⟨g3, 3, none⟩ (.slice A3 y.length c3)) g bs from Cur.set HC.out GE3.out _)
  have n1_ := Aside0.mk (show (ws.setCell ⟨g3, 3, none⟩ (.slice A3 y.length c3)).heap[g2]? = some (.cells #[.int .i64 0, .int .i64 0, .int .i64 0, .slice none 0 0, .slice none 0 0, .int .i64 0, .int .i64 0, .slice none 0 0, .int .i64 0, .int .i64 0, .int .i64 0, .int .i64 0, .slice none 0 0, .int .i64 0, .int .i64 0, .int .i64 0] 36 (0, 0)) from blk_far BK2.out NE23.out _)
  have n2_ := Aside0.mk (show (ws.setCell ⟨g3, 3, none⟩ (.slice A3 y.length c3)).heap[g3]? = some (.cells #[.int .i64 s1, .int .i64 s2, .int .i64 s3, .slice A3 y.length c3, .slice A4 s5.length c4, .int .i64 s6, .int .i64 s7, .slice A7 s8.length c7, .int .i64 s9, .int .i64 s10, .int .i64 s11, .int .i64 s12] 33 (0, 0)) from blk_put BK3.out 3 _ rfl)
  have n3_ := Aside0.mk (show Kd.R k48 48 (ws.setCell ⟨g3, 3, none⟩ (.slice A3 y.length c3)) w.heap.size (fun k_ => k_ ≠ g2) (.slice A3 y.length c3) y from Kd.R_mono (Kd.R_far (p := ⟨g3, 3, none⟩) (Kd.R_types (Kd.R_types HO3.out BK2.out (by decide)) BK3.out (by decide)) (fun _ hk => hk.2) (.slice A3 y.length c3)) (fun _ hk => hk.1.2))
  have n4_ := Aside0.mk (show Kd.R k101 101 (ws.setCell ⟨g3, 3, none⟩ (.slice A3 y.length c3)) w.heap.size (fun k_ => k_ ≠ g2) (.slice A4 s5.length c4) s5 from Kd.R_mono (Kd.R_far (p := ⟨g3, 3, none⟩) (Kd.R_types (Kd.R_types HO4.out BK2.out (by decide)) BK3.out (by decide)) (fun _ hk => hk.2) (.slice A3 y.length c3)) (fun _ hk => hk.1.2))
  have n5_ := Aside0.mk (show Kd.R k101 101 (ws.setCell ⟨g3, 3, none⟩ (.slice A3 y.length c3)) w.heap.size (fun k_ => k_ ≠ g2) (.slice A7 s8.length c7) s8 from Kd.R_mono (Kd.R_far (p := ⟨g3, 3, none⟩) (Kd.R_types (Kd.R_types HO7.out BK2.out (by decide)) BK3.out (by decide)) (fun _ hk => hk.2) (.slice A3 y.length c3)) (fun _ hk => hk.1.2))
  clear HC BK2 BK3 HO3 HO4 HO7
  generalize (ws.setCell ⟨g3, 3, none⟩ (.slice A3 y.length c3)) = wq at n0_ n1_ n2_ n3_ n4_ n5_ ⊢
  have HC := n0_
  have BK2 := n1_
  have BK3 := n2_
  have HO3 := n3_
  have HO4 := n4_
  have HO7 := n5_
  clear n0_ n1_ n2_ n3_ n4_ n5_
  have HR3 := Aside0.mk (Cur.apart HC.out HO3.out (by decide))
  have HR4 := Aside0.mk (Cur.apart HC.out HO4.out (by decide))
  have HR7 := Aside0.mk (Cur.apart HC.out HO7.out (by decide))
  clear HO3 HO4 HO7
  have HC0 := HC
  clear HC
  have HSZ := Aside0.mk (Cur.size HC0.out)
  have NGR := Aside0.mk (show g < wq.heap.size from Nat.lt_of_lt_of_le NG.out HSZ.out)
  refine start_ (n := 13) (S := fun w' => True) (ds := []) #[false, false, false, false, false, false, false, false, false, false, false, false, false] (by kernel_rfl) rfl rfl trivial (fun hHeld => ?_)
  refine with_tabW spec_l12DrawWorld.tab3 spec_l12DrawWorld.bits3 (fun HT_ HW_ => ?_)
  have HC : Aside0 (Cur w0 w wq.drew g bs) := Aside0.mk (Cur.drew HC0.out)
  have AK : Aside0 (KeepBut wq wq.drew g none) := Aside0.mk (keep_drew (KeepBut.refl wq g none))
  refine pure_ (i := 1) (N := some 13) (v := ?_) (a' := ?_) #[false, true, false, false, false, false, false, false, false, false, false, false, false] rfl rfl (any_of HT_.out (by kernel_rfl)) (fun _ _ _ h => h) (Or.inl ⟨by rfl, ?_⟩) ?_ ?_
  rotate_left
  · intro w'
    go_simp
    with_reducible rfl
  rotate_left
  · simp only [Act.put, List.setIfInBounds_toArray, List.set_cons_zero, List.set_cons_succ, i64_w, i32_w]
    rfl
  refine pure_ (i := 4) (N := some 16) (v := ?_) (a' := ?_) #[false, true, false, false, true, false, false, false, false, false, false, false, false] rfl rfl (any_of HT_.out (by kernel_rfl)) (fun _ _ _ h => h) (Or.inl ⟨by rfl, ?_⟩) ?_ ?_
  rotate_left
  · intro w'
    go_simp
    with_reducible rfl
  rotate_left
  · simp only [Act.put, List.setIfInBounds_toArray, List.set_cons_zero, List.set_cons_succ, i64_w, i32_w]
    rfl
  refine pure_ (i := 7) (N := some 19) (v := ?_) (a' := ?_) #[false, true, false, false, true, false, false, true, false, false, false, false, false] rfl rfl (any_of HT_.out (by kernel_rfl)) (fun _ _ _ h => h) (Or.inl ⟨by rfl, ?_⟩) ?_ ?_
  rotate_left
  · intro w'
    go_simp
    with_reducible rfl
  rotate_left
  · simp only [Act.put, List.setIfInBounds_toArray, List.set_cons_zero, List.set_cons_succ, i64_w, i32_w]
    rfl
  refine inv_at [0, 2, 3, 5, 6, 8, 9, 10, 11, 12] (fun a0_ b a w' => ∃ (v14 : Value) (x15 : Int) (x17 : Int) (x20 : Int) (g4 : Nat) (m3_ : Value) (m5_ : Value) (m6_ : Value) (m8_ : Value) (m9_ : Value) (m10_ : Value) (m11_ : Value), a = putSel a0_ b [(0, 12, .agg #[.int .i64 s1, .int .i64 s2, .int .i64 s3, .slice A3 y.length c3, .slice A4 s5.length c4, .int .i64 s6, .int .i64 s7, .slice A7 s8.length c7, .int .i64 s9, .int .i64 s10, .int .i64 s11, .int .i64 s12]), (2, 14, v14), (3, 15, m3_), (5, 17, m5_), (6, 18, m6_), (8, 20, m8_), (9, 21, m9_), (10, 22, m10_), (11, 4, m11_)] ∧ (Cur w0 w w' g bs) ∧ (KeepBut wq w' g none) ∧ (b 2 = true → b 3 = false → Kd.R (Kd.int .i64) 3 w' w.heap.size (fun k => k ≠ g) v14 [0, 2, 5]) ∧ (b 11 = true → wq.heap.size ≤ g4) ∧ (b 11 = true → b 12 = false → w'.heap[g4]? = some (.cells #[.int .i64 0, .int .i64 0, .int .i64 0, .slice none 0 0, .slice none 0 0, .int .i64 0, .int .i64 0, .slice none 0 0, .int .i64 0, .int .i64 0, .int .i64 0, .int .i64 0, .slice none 0 0, .int .i64 0, .int .i64 0, .int .i64 0] 36 (0, 0))) ∧ (b 12 = true → w'.heap[g4]? = some (.cells #[.int .i64 s1, .int .i64 s2, .int .i64 s3, .slice A3 y.length c3, .slice A4 s5.length c4, .int .i64 s6, .int .i64 s7, .slice A7 s8.length c7, .int .i64 s9, .int .i64 s10, .int .i64 s11, .int .i64 s12, .slice none 0 0, .int .i64 x15, .int .i64 (wrap64 (1 + x17)), .int .i64 (wrap64 (1 + x20))] 36 (0, 0))) ∧ (b 3 = true → (m3_ : Value) = .int .i64 x15) ∧ (b 5 = true → (m5_ : Value) = .int .i64 x17) ∧ (b 6 = true → (m6_ : Value) = .int .i64 (wrap64 (1 + x17))) ∧ (b 8 = true → (m8_ : Value) = .int .i64 x20) ∧ (b 9 = true → (m9_ : Value) = .int .i64 (wrap64 (1 + x20))) ∧ (b 10 = true → (m10_ : Value) = .agg #[.int .i64 s1, .int .i64 s2, .int .i64 s3, .slice A3 y.length c3, .slice A4 s5.length c4, .int .i64 s6, .int .i64 s7, .slice A7 s8.length c7, .int .i64 s9, .int .i64 s10, .int .i64 s11, .int .i64 s12, .slice none 0 0, .int .i64 x15, .int .i64 (wrap64 (1 + x17)), .int .i64 (wrap64 (1 + x20))]) ∧ (b 11 = true → (m11_ : Value) = .pointer (some ⟨g4, 0, none⟩))) HT_.out HW_.out (by kernel_rfl) (by kernel_rfl) ?_ ?_ ?_
  · exact ⟨.bool false, 0, 0, 0, 0, .bool false, .bool false, .bool false, .bool false, .bool false, .bool false, .bool false, by simp only [putSel, Bool.false_eq_true, if_false], HC.out, AK.out, fun h_ => absurd h_ (by decide), fun h_ => absurd h_ (by decide), fun h_ => absurd h_ (by decide), fun h_ => absurd h_ (by decide), fun h_ => absurd h_ (by decide), fun h_ => absurd h_ (by decide), fun h_ => absurd h_ (by decide), fun h_ => absurd h_ (by decide), fun h_ => absurd h_ (by decide), fun h_ => absurd h_ (by decide), fun h_ => absurd h_ (by decide)⟩
  · skip
    clear AK HC
    refine steps_cons ?_ ?_
    · rintro b a w' ⟨v14, x15, x17, x20, g4, m3_, m5_, m6_, m8_, m9_, m10_, m11_, ha, Q_HC, Q_AK, Q_HL, Q_GE4, Q_BK4, Q_BKF, Q_X3_, Q_X5_, Q_X6_, Q_X8_, Q_X9_, Q_X10_, Q_X11_⟩ hb_ hon hoff
      refine ⟨_, rfl, fun K hK => ?_⟩
      have e3 : a.tmps[3]? = some (.pointer (some ⟨g3, 0, none⟩)) := by rw [ha]; exact (putSel_off rfl).trans rfl
      replace ha := Aside0.mk ha
      have HC := Aside0.mk Q_HC
      have AK := Aside0.mk Q_AK
      refine value_ (w1 := w') (v := .agg #[.int .i64 s1, .int .i64 s2, .int .i64 s3, .slice A3 y.length c3, .slice A4 s5.length c4, .int .i64 s6, .int .i64 s7, .slice A7 s8.length c7, .int .i64 s9, .int .i64 s10, .int .i64 s11, .int .i64 s12]) (by rfl) rfl (loadAll 33 (.tmp 3) rfl g3 (by simp only [Act.eval, Array.getD_eq_getD_getElem?, e3, Option.getD_some]) 33 _ _ (AK.out.blk BK3.out NE3.out (by simp)) Tryz.underlying33 rfl (by kernel_rfl)) ?_
      refine hK.out _ _ ⟨v14, x15, x17, x20, g4, m3_, m5_, m6_, m8_, m9_, m10_, m11_, (by rw [ha.out]; exact putSel_upk 0 hb_ rfl rfl rfl), HC.out, AK.out, fun h0_ h1_ => (Q_HL h0_ h1_), Q_GE4, fun h0_ h1_ => (Q_BK4 h0_ h1_), fun h0_ => absurd ((hoff 12 (by kernel_rfl)).symm.trans h0_) (by decide), Q_X3_, Q_X5_, Q_X6_, Q_X8_, Q_X9_, fun h0_ => absurd ((hoff 10 (by kernel_rfl)).symm.trans h0_) (by decide), Q_X11_⟩
    refine steps_cons ?_ ?_
    · rintro b a w' ⟨v14, x15, x17, x20, g4, m3_, m5_, m6_, m8_, m9_, m10_, m11_, ha, Q_HC, Q_AK, Q_HL, Q_GE4, Q_BK4, Q_BKF, Q_X3_, Q_X5_, Q_X6_, Q_X8_, Q_X9_, Q_X10_, Q_X11_⟩ hb_ hon hoff
      refine ⟨_, rfl, fun K hK => ?_⟩
      replace ha := Aside0.mk ha
      have HC := Aside0.mk Q_HC
      have AK := Aside0.mk Q_AK
      refine Kd.R_lit_step (Kd.int .i64) _ 3 ?hg (N := 14) ?hd (xs := ([0, 2, 5] : List Int)) (inner := [.int .i64 0, .int .i64 2, .int .i64 5]) (ok := fun _ => True) (okp := fun _ => True) ?hr ?hp (fun _ hk => hk) trivial (Below.refl _ _) (Nat.le_refl _) (by simp) ?_; (case hd => rfl); (case hg => rfl); (case hr => first | (go_simp; done) | (go_simp; rfl)); (case hp => exact (Reps.one (show Kd.M (Kd.int .i64) _ _ _ 0 [.int .i64 0] from rfl) (Reps.one (show Kd.M (Kd.int .i64) _ _ _ 2 [.int .i64 2] from rfl) (Reps.one (show Kd.M (Kd.int .i64) _ _ _ 5 [.int .i64 5] from rfl) (Reps.none _ _)))))
      intro v14_ w2 ho hb hg_ hnew_
      clear hg_ hnew_
      refine hK.out _ _ ⟨v14_, x15, x17, x20, g4, m3_, m5_, m6_, m8_, m9_, m10_, m11_, (by rw [ha.out]; exact putSel_upk 1 hb_ rfl rfl rfl), Cur.below HC.out hb, AK.out.trans (KeepBut.of_below hb g none) (.inl rfl), fun _ _ => Kd.R_mono (Cur.apart (Cur.below HC.out hb) (Kd.R_lower ho (Cur.size HC.out)) (by decide)) (fun _ h_ => h_.2), Q_GE4, fun h0_ h1_ => blk_below (Q_BK4 h0_ h1_) hb, fun h0_ => absurd ((hoff 12 (by kernel_rfl)).symm.trans h0_) (by decide), fun h0_ => absurd ((hoff 3 (by kernel_rfl)).symm.trans h0_) (by decide), fun h0_ => absurd ((hoff 5 (by kernel_rfl)).symm.trans h0_) (by decide), fun h0_ => absurd ((hoff 6 (by kernel_rfl)).symm.trans h0_) (by decide), fun h0_ => absurd ((hoff 8 (by kernel_rfl)).symm.trans h0_) (by decide), fun h0_ => absurd ((hoff 9 (by kernel_rfl)).symm.trans h0_) (by decide), fun h0_ => absurd ((hoff 10 (by kernel_rfl)).symm.trans h0_) (by decide), Q_X11_⟩
    refine steps_cons ?_ ?_
    · rintro b a w' ⟨v14, x15, x17, x20, g4, m3_, m5_, m6_, m8_, m9_, m10_, m11_, ha, Q_HC, Q_AK, Q_HL, Q_GE4, Q_BK4, Q_BKF, Q_X3_, Q_X5_, Q_X6_, Q_X8_, Q_X9_, Q_X10_, Q_X11_⟩ hb_ hon hoff
      refine ⟨_, rfl, fun K hK => ?_⟩
      have e13 : a.tmps[13]? = some (.pointer (some ⟨g, 0, none⟩)) := by rw [ha]; exact (putSel_off rfl).trans rfl
      have e14 : a.tmps[14]? = some (v14) := by rw [ha]; exact putSel_on (e := (2, 14, v14)) 1 rfl rfl (hon 2 (by kernel_rfl)) rfl
      replace ha := Aside0.mk ha
      have HC := Aside0.mk Q_HC
      have AK := Aside0.mk Q_AK
      have HL := Aside0.mk (Q_HL (hon 2 (by kernel_rfl)) hb_)
      obtain ⟨Al, cl, el_⟩ := Kd.R_slice HL.out
      subst el_
      refine goes_ Tryz.func52 (by kernel_rfl) rfl #[.pointer (some ⟨g, 0, none⟩), .slice Al ([0, 2, 5] : List Int).length cl] (by rfl) rfl rfl (by first | (simp only [List.map_toArray, List.map_cons, List.map_nil, Act.eval, Array.getD_eq_getD_getElem?, Option.getD_some, e13, e14]; done) | (simp only [List.map_toArray, List.map_cons, List.map_nil, Act.eval, Array.getD_eq_getD_getElem?, Option.getD_some, e13, e14]; rfl)) ?_
      refine (curPick HC.out HL.out (by decide)).mono ?_
      rintro e w2 ⟨x15_, rfl, -, hC, hk⟩
      refine ⟨_, rfl, ?_⟩
      refine hK.out _ _ ⟨(.slice Al ([0, 2, 5] : List Int).length cl), x15_, x17, x20, g4, (.int .i64 x15_), m5_, m6_, m8_, m9_, m10_, m11_, (by rw [ha.out]; exact putSel_upk 2 hb_ rfl rfl rfl), hC, AK.out.trans hk (.inl rfl), fun _ h1_ => absurd ((up_self b 3).symm.trans h1_) (by decide), Q_GE4, fun h0_ h1_ => hk.blk (Q_BK4 h0_ h1_) (fun e_ => by have h1_ := Q_GE4 h0_; have h2_ := NGR.out; omega) (by simp), fun h0_ => absurd ((hoff 12 (by kernel_rfl)).symm.trans h0_) (by decide), fun _ => rfl, fun h0_ => absurd ((hoff 5 (by kernel_rfl)).symm.trans h0_) (by decide), fun h0_ => absurd ((hoff 6 (by kernel_rfl)).symm.trans h0_) (by decide), fun h0_ => absurd ((hoff 8 (by kernel_rfl)).symm.trans h0_) (by decide), fun h0_ => absurd ((hoff 9 (by kernel_rfl)).symm.trans h0_) (by decide), fun h0_ => absurd ((hoff 10 (by kernel_rfl)).symm.trans h0_) (by decide), Q_X11_⟩
    refine steps_cons ?_ ?_
    · rintro b a w' ⟨v14, x15, x17, x20, g4, m3_, m5_, m6_, m8_, m9_, m10_, m11_, ha, Q_HC, Q_AK, Q_HL, Q_GE4, Q_BK4, Q_BKF, Q_X3_, Q_X5_, Q_X6_, Q_X8_, Q_X9_, Q_X10_, Q_X11_⟩ hb_ hon hoff
      refine ⟨_, rfl, fun K hK => ?_⟩
      have e16 : a.tmps[16]? = some (.pointer (some ⟨g, 0, none⟩)) := by rw [ha]; exact (putSel_off rfl).trans rfl
      replace ha := Aside0.mk ha
      have HC := Aside0.mk Q_HC
      have AK := Aside0.mk Q_AK
      refine goes_ Tryz.func53 (by kernel_rfl) rfl #[.pointer (some ⟨g, 0, none⟩), .int .i64 12] (by rfl) rfl rfl (by first | (simp only [List.map_toArray, List.map_cons, List.map_nil, Act.eval, Array.getD_eq_getD_getElem?, Option.getD_some, e16]; done) | (simp only [List.map_toArray, List.map_cons, List.map_nil, Act.eval, Array.getD_eq_getD_getElem?, Option.getD_some, e16]; rfl)) ?_
      refine (curBelow HC.out 12).mono ?_
      rintro e w2 ⟨x17_, rfl, -, -, hC, hk⟩
      refine ⟨_, rfl, ?_⟩
      refine hK.out _ _ ⟨v14, x15, x17_, x20, g4, m3_, (.int .i64 x17_), m6_, m8_, m9_, m10_, m11_, (by rw [ha.out]; exact putSel_upk 3 hb_ rfl rfl rfl), hC, AK.out.trans hk (.inl rfl), fun _ h1_ => absurd ((hon 3 (by kernel_rfl)).symm.trans h1_) (by decide), Q_GE4, fun h0_ h1_ => hk.blk (Q_BK4 h0_ h1_) (fun e_ => by have h1_ := Q_GE4 h0_; have h2_ := NGR.out; omega) (by simp), fun h0_ => absurd ((hoff 12 (by kernel_rfl)).symm.trans h0_) (by decide), Q_X3_, fun _ => rfl, fun h0_ => absurd ((hoff 6 (by kernel_rfl)).symm.trans h0_) (by decide), fun h0_ => absurd ((hoff 8 (by kernel_rfl)).symm.trans h0_) (by decide), fun h0_ => absurd ((hoff 9 (by kernel_rfl)).symm.trans h0_) (by decide), fun h0_ => absurd ((hoff 10 (by kernel_rfl)).symm.trans h0_) (by decide), Q_X11_⟩
    refine steps_cons ?_ ?_
    · rintro b a w' ⟨v14, x15, x17, x20, g4, m3_, m5_, m6_, m8_, m9_, m10_, m11_, ha, Q_HC, Q_AK, Q_HL, Q_GE4, Q_BK4, Q_BKF, Q_X3_, Q_X5_, Q_X6_, Q_X8_, Q_X9_, Q_X10_, Q_X11_⟩ hb_ hon hoff
      refine ⟨_, rfl, fun K hK => ?_⟩
      have e17 : a.tmps[17]? = some (m5_) := by rw [ha]; exact putSel_on (e := (5, 17, m5_)) 3 rfl rfl (hon 5 (by kernel_rfl)) rfl
      rw [Q_X5_ (hon 5 (by kernel_rfl))] at e17
      replace ha := Aside0.mk ha
      have HC := Aside0.mk Q_HC
      have AK := Aside0.mk Q_AK
      refine value_ (w1 := w') (v := .int .i64 (wrap64 (1 + x17))) (by rfl) rfl ?_ ?_
      · go_simp
        (try simp only [i64_w])
        try rfl
      refine hK.out _ _ ⟨v14, x15, x17, x20, g4, m3_, m5_, (.int .i64 (wrap64 (1 + x17))), m8_, m9_, m10_, m11_, (by rw [ha.out]; exact putSel_upk 4 hb_ rfl rfl rfl), Q_HC, Q_AK, fun _ h1_ => absurd ((hon 3 (by kernel_rfl)).symm.trans h1_) (by decide), Q_GE4, Q_BK4, fun h0_ => absurd ((hoff 12 (by kernel_rfl)).symm.trans h0_) (by decide), Q_X3_, Q_X5_, fun _ => rfl, Q_X8_, Q_X9_, fun h0_ => absurd ((hoff 10 (by kernel_rfl)).symm.trans h0_) (by decide), Q_X11_⟩
    refine steps_cons ?_ ?_
    · rintro b a w' ⟨v14, x15, x17, x20, g4, m3_, m5_, m6_, m8_, m9_, m10_, m11_, ha, Q_HC, Q_AK, Q_HL, Q_GE4, Q_BK4, Q_BKF, Q_X3_, Q_X5_, Q_X6_, Q_X8_, Q_X9_, Q_X10_, Q_X11_⟩ hb_ hon hoff
      refine ⟨_, rfl, fun K hK => ?_⟩
      have e19 : a.tmps[19]? = some (.pointer (some ⟨g, 0, none⟩)) := by rw [ha]; exact (putSel_off rfl).trans rfl
      replace ha := Aside0.mk ha
      have HC := Aside0.mk Q_HC
      have AK := Aside0.mk Q_AK
      refine goes_ Tryz.func53 (by kernel_rfl) rfl #[.pointer (some ⟨g, 0, none⟩), .int .i64 6] (by rfl) rfl rfl (by first | (simp only [List.map_toArray, List.map_cons, List.map_nil, Act.eval, Array.getD_eq_getD_getElem?, Option.getD_some, e19]; done) | (simp only [List.map_toArray, List.map_cons, List.map_nil, Act.eval, Array.getD_eq_getD_getElem?, Option.getD_some, e19]; rfl)) ?_
      refine (curBelow HC.out 6).mono ?_
      rintro e w2 ⟨x20_, rfl, -, -, hC, hk⟩
      refine ⟨_, rfl, ?_⟩
      refine hK.out _ _ ⟨v14, x15, x17, x20_, g4, m3_, m5_, m6_, (.int .i64 x20_), m9_, m10_, m11_, (by rw [ha.out]; exact putSel_upk 5 hb_ rfl rfl rfl), hC, AK.out.trans hk (.inl rfl), fun _ h1_ => absurd ((hon 3 (by kernel_rfl)).symm.trans h1_) (by decide), Q_GE4, fun h0_ h1_ => hk.blk (Q_BK4 h0_ h1_) (fun e_ => by have h1_ := Q_GE4 h0_; have h2_ := NGR.out; omega) (by simp), fun h0_ => absurd ((hoff 12 (by kernel_rfl)).symm.trans h0_) (by decide), Q_X3_, Q_X5_, Q_X6_, fun _ => rfl, fun h0_ => absurd ((hoff 9 (by kernel_rfl)).symm.trans h0_) (by decide), fun h0_ => absurd ((hoff 10 (by kernel_rfl)).symm.trans h0_) (by decide), Q_X11_⟩
    refine steps_cons ?_ ?_
    · rintro b a w' ⟨v14, x15, x17, x20, g4, m3_, m5_, m6_, m8_, m9_, m10_, m11_, ha, Q_HC, Q_AK, Q_HL, Q_GE4, Q_BK4, Q_BKF, Q_X3_, Q_X5_, Q_X6_, Q_X8_, Q_X9_, Q_X10_, Q_X11_⟩ hb_ hon hoff
      refine ⟨_, rfl, fun K hK => ?_⟩
      have e20 : a.tmps[20]? = some (m8_) := by rw [ha]; exact putSel_on (e := (8, 20, m8_)) 5 rfl rfl (hon 8 (by kernel_rfl)) rfl
      rw [Q_X8_ (hon 8 (by kernel_rfl))] at e20
      replace ha := Aside0.mk ha
      have HC := Aside0.mk Q_HC
      have AK := Aside0.mk Q_AK
      refine value_ (w1 := w') (v := .int .i64 (wrap64 (1 + x20))) (by rfl) rfl ?_ ?_
      · go_simp
        (try simp only [i64_w])
        try rfl
      refine hK.out _ _ ⟨v14, x15, x17, x20, g4, m3_, m5_, m6_, m8_, (.int .i64 (wrap64 (1 + x20))), m10_, m11_, (by rw [ha.out]; exact putSel_upk 6 hb_ rfl rfl rfl), Q_HC, Q_AK, fun _ h1_ => absurd ((hon 3 (by kernel_rfl)).symm.trans h1_) (by decide), Q_GE4, Q_BK4, fun h0_ => absurd ((hoff 12 (by kernel_rfl)).symm.trans h0_) (by decide), Q_X3_, Q_X5_, Q_X6_, Q_X8_, fun _ => rfl, fun h0_ => absurd ((hoff 10 (by kernel_rfl)).symm.trans h0_) (by decide), Q_X11_⟩
    refine steps_cons ?_ ?_
    · rintro b a w' ⟨v14, x15, x17, x20, g4, m3_, m5_, m6_, m8_, m9_, m10_, m11_, ha, Q_HC, Q_AK, Q_HL, Q_GE4, Q_BK4, Q_BKF, Q_X3_, Q_X5_, Q_X6_, Q_X8_, Q_X9_, Q_X10_, Q_X11_⟩ hb_ hon hoff
      refine ⟨_, rfl, fun K hK => ?_⟩
      have e12 : a.tmps[12]? = some (.agg #[.int .i64 s1, .int .i64 s2, .int .i64 s3, .slice A3 y.length c3, .slice A4 s5.length c4, .int .i64 s6, .int .i64 s7, .slice A7 s8.length c7, .int .i64 s9, .int .i64 s10, .int .i64 s11, .int .i64 s12]) := by rw [ha]; exact putSel_on (e := (0, 12, .agg #[.int .i64 s1, .int .i64 s2, .int .i64 s3, .slice A3 y.length c3, .slice A4 s5.length c4, .int .i64 s6, .int .i64 s7, .slice A7 s8.length c7, .int .i64 s9, .int .i64 s10, .int .i64 s11, .int .i64 s12])) 0 rfl rfl (hon 0 (by kernel_rfl)) rfl
      have e15 : a.tmps[15]? = some (m3_) := by rw [ha]; exact putSel_on (e := (3, 15, m3_)) 2 rfl rfl (hon 3 (by kernel_rfl)) rfl
      rw [Q_X3_ (hon 3 (by kernel_rfl))] at e15
      have e18 : a.tmps[18]? = some (m6_) := by rw [ha]; exact putSel_on (e := (6, 18, m6_)) 4 rfl rfl (hon 6 (by kernel_rfl)) rfl
      rw [Q_X6_ (hon 6 (by kernel_rfl))] at e18
      have e21 : a.tmps[21]? = some (m9_) := by rw [ha]; exact putSel_on (e := (9, 21, m9_)) 6 rfl rfl (hon 9 (by kernel_rfl)) rfl
      rw [Q_X9_ (hon 9 (by kernel_rfl))] at e21
      replace ha := Aside0.mk ha
      have HC := Aside0.mk Q_HC
      have AK := Aside0.mk Q_AK
      refine value_ (w1 := w') (v := .agg #[.int .i64 s1, .int .i64 s2, .int .i64 s3, .slice A3 y.length c3, .slice A4 s5.length c4, .int .i64 s6, .int .i64 s7, .slice A7 s8.length c7, .int .i64 s9, .int .i64 s10, .int .i64 s11, .int .i64 s12, .slice none 0 0, .int .i64 x15, .int .i64 (wrap64 (1 + x17)), .int .i64 (wrap64 (1 + x20))]) (by rfl) rfl ?_ ?_
      · go_simp
        (try simp only [i64_w])
        try rfl
      refine hK.out _ _ ⟨v14, x15, x17, x20, g4, m3_, m5_, m6_, m8_, m9_, (.agg #[.int .i64 s1, .int .i64 s2, .int .i64 s3, .slice A3 y.length c3, .slice A4 s5.length c4, .int .i64 s6, .int .i64 s7, .slice A7 s8.length c7, .int .i64 s9, .int .i64 s10, .int .i64 s11, .int .i64 s12, .slice none 0 0, .int .i64 x15, .int .i64 (wrap64 (1 + x17)), .int .i64 (wrap64 (1 + x20))]), m11_, (by rw [ha.out]; exact putSel_upk 7 hb_ rfl rfl rfl), HC.out, AK.out, fun _ h1_ => absurd ((hon 3 (by kernel_rfl)).symm.trans h1_) (by decide), Q_GE4, fun h0_ h1_ => (Q_BK4 h0_ h1_), fun h0_ => absurd ((hoff 12 (by kernel_rfl)).symm.trans h0_) (by decide), Q_X3_, Q_X5_, Q_X6_, Q_X8_, Q_X9_, fun _ => rfl, Q_X11_⟩
    refine steps_cons ?_ ?_
    · rintro b a w' ⟨v14, x15, x17, x20, g4, m3_, m5_, m6_, m8_, m9_, m10_, m11_, ha, Q_HC, Q_AK, Q_HL, Q_GE4, Q_BK4, Q_BKF, Q_X3_, Q_X5_, Q_X6_, Q_X8_, Q_X9_, Q_X10_, Q_X11_⟩ hb_ hon hoff
      refine ⟨_, rfl, fun K hK => ?_⟩
      replace ha := Aside0.mk ha
      have HC := Aside0.mk Q_HC
      have AK := Aside0.mk Q_AK
      refine value_ (w1 := w'.alloc (.cells #[.int .i64 0, .int .i64 0, .int .i64 0, .slice none 0 0, .slice none 0 0, .int .i64 0, .int .i64 0, .slice none 0 0, .int .i64 0, .int .i64 0, .int .i64 0, .int .i64 0, .slice none 0 0, .int .i64 0, .int .i64 0, .int .i64 0] 36 (0, 0))) (v := .pointer (some ⟨w'.heap.size, 0, none⟩)) (by rfl) rfl (by first | (go_simp; done) | (go_simp; rfl)) ?_
      refine hK.out _ _ ⟨v14, x15, x17, x20, w'.heap.size, m3_, m5_, m6_, m8_, m9_, m10_, (.pointer (some ⟨w'.heap.size, 0, none⟩)), (by rw [ha.out]; exact putSel_upk 8 hb_ rfl rfl rfl), Cur.below HC.out (below_alloc (Below.refl _ _) _), AK.out.trans (KeepBut.of_below (below_alloc (Below.refl _ _) _) g none) (.inl rfl), fun h0_ h1_ => Kd.R_below (Q_HL h0_ h1_) (below_alloc (Below.refl _ _) _), fun _ => AK.out.1, fun _ _ => blk_new w' _, fun h0_ => absurd ((hoff 12 (by kernel_rfl)).symm.trans h0_) (by decide), Q_X3_, Q_X5_, Q_X6_, Q_X8_, Q_X9_, Q_X10_, fun _ => rfl⟩
    refine steps_cons ?_ ?_
    · rintro b a w' ⟨v14, x15, x17, x20, g4, m3_, m5_, m6_, m8_, m9_, m10_, m11_, ha, Q_HC, Q_AK, Q_HL, Q_GE4, Q_BK4, Q_BKF, Q_X3_, Q_X5_, Q_X6_, Q_X8_, Q_X9_, Q_X10_, Q_X11_⟩ hb_ hon hoff
      refine ⟨_, rfl, fun K hK => ?_⟩
      have e4 : a.tmps[4]? = some (m11_) := by rw [ha]; exact putSel_on (e := (11, 4, m11_)) 8 rfl rfl (hon 11 (by kernel_rfl)) rfl
      rw [Q_X11_ (hon 11 (by kernel_rfl))] at e4
      have e22 : a.tmps[22]? = some (m10_) := by rw [ha]; exact putSel_on (e := (10, 22, m10_)) 7 rfl rfl (hon 10 (by kernel_rfl)) rfl
      rw [Q_X10_ (hon 10 (by kernel_rfl))] at e22
      replace ha := Aside0.mk ha
      have HC := Aside0.mk Q_HC
      have AK := Aside0.mk Q_AK
      have GE4 := Aside0.mk (Q_GE4 (hon 11 (by kernel_rfl)))
      have BK4 := Aside0.mk (Q_BK4 (hon 11 (by kernel_rfl)) hb_)
      refine storeStep (by rfl) rfl 36 (.tmp 4) (.tmp 22) rfl g4 #[.int .i64 s1, .int .i64 s2, .int .i64 s3, .slice A3 y.length c3, .slice A4 s5.length c4, .int .i64 s6, .int .i64 s7, .slice A7 s8.length c7, .int .i64 s9, .int .i64 s10, .int .i64 s11, .int .i64 s12, .slice none 0 0, .int .i64 x15, .int .i64 (wrap64 (1 + x17)), .int .i64 (wrap64 (1 + x20))] (by simp only [Act.eval, Array.getD_eq_getD_getElem?, e4, Option.getD_some]) (by simp only [Act.eval, Array.getD_eq_getD_getElem?, e22, Option.getD_some]) 36 #[.int .i64 0, .int .i64 0, .int .i64 0, .slice none 0 0, .slice none 0 0, .int .i64 0, .int .i64 0, .slice none 0 0, .int .i64 0, .int .i64 0, .int .i64 0, .int .i64 0, .slice none 0 0, .int .i64 0, .int .i64 0, .int .i64 0] BK4.out (by kernel_rfl) rfl (by simp [oneInt, oneSlice]) ?_
      intro w2 hbs hgs
      refine hK.out _ _ ⟨v14, x15, x17, x20, g4, m3_, m5_, m6_, m8_, m9_, m10_, m11_, (by rw [ha.out]; exact putSel_none (v := undef) rfl), Cur.grown HC.out hgs (fun x_ e_ => by cases e_; exact Nat.le_trans HSZ.out GE4.out), AK.out.trans (KeepBut.of_grown hgs g) (.inr ⟨g4, rfl, GE4.out⟩), fun _ h1_ => absurd ((hon 3 (by kernel_rfl)).symm.trans h1_) (by decide), Q_GE4, fun _ h1_ => absurd ((up_self b 12).symm.trans h1_) (by decide), fun _ => hbs, Q_X3_, Q_X5_, Q_X6_, Q_X8_, Q_X9_, Q_X10_, Q_X11_⟩
    exact steps_nil
  rintro b a wf hall ⟨v14, x15, x17, x20, g4, m3_, m5_, m6_, m8_, m9_, m10_, m11_, ha, Q_HC, Q_AK, Q_HL, Q_GE4, Q_BK4, Q_BKF, Q_X3_, Q_X5_, Q_X6_, Q_X8_, Q_X9_, Q_X10_, Q_X11_⟩
  clear AK HC
  have hb0_ := hall 0 (by kernel_rfl)
  have hb2_ := hall 2 (by kernel_rfl)
  have hb3_ := hall 3 (by kernel_rfl)
  have hb5_ := hall 5 (by kernel_rfl)
  have hb6_ := hall 6 (by kernel_rfl)
  have hb8_ := hall 8 (by kernel_rfl)
  have hb9_ := hall 9 (by kernel_rfl)
  have hb10_ := hall 10 (by kernel_rfl)
  have hb11_ := hall 11 (by kernel_rfl)
  have hb12_ := hall 12 (by kernel_rfl)
  subst ha
  obtain rfl := Q_X3_ hb3_
  obtain rfl := Q_X5_ hb5_
  obtain rfl := Q_X6_ hb6_
  obtain rfl := Q_X8_ hb8_
  obtain rfl := Q_X9_ hb9_
  obtain rfl := Q_X10_ hb10_
  obtain rfl := Q_X11_ hb11_
  simp only [putSel, hb0_, hb2_, hb3_, hb5_, hb6_, hb8_, hb9_, hb10_, hb11_, hb12_, if_true, Act.put, List.setIfInBounds_toArray, List.set_cons_zero, List.set_cons_succ]
  have HC := Aside0.mk Q_HC
  clear Q_HC
  have AK := Aside0.mk Q_AK
  clear Q_AK
  clear Q_HL
  have GE4 := Aside0.mk (Q_GE4 hb11_)
  clear Q_GE4
  clear Q_BK4
  have BKF := Aside0.mk (Q_BKF hb12_)
  clear Q_BKF
  clear hall hb0_ hb2_ hb3_ hb5_ hb6_ hb8_ hb9_ hb10_ hb11_ hb12_
  obtain ⟨n, ST⟩ : ∃ n, Aside0 (St w0 w wq wf g bs n g4 #[.int .i64 s1, .int .i64 s2, .int .i64 s3, .slice A3 y.length c3, .slice A4 s5.length c4, .int .i64 s6, .int .i64 s7, .slice A7 s8.length c7, .int .i64 s9, .int .i64 s10, .int .i64 s11, .int .i64 s12, .slice none 0 0, .int .i64 x15, .int .i64 (wrap64 (1 + x17)), .int .i64 (wrap64 (1 + x20))] (.slice none 0 0) []) := ⟨wf.heap.size, ⟨HC.out, AK.out, BKF.out, Kd.R_nil _ _ _ _ _, GE4.out, blk_lt BKF.out, HSZ.out, Nat.le_refl _⟩⟩
  clear HC AK BKF GE4 HT_ HW_ hHeld
  go_wp2_with (first
    | (go_at_call 53; refine (curBelow (St.cur sb) 6).mono ?_; rintro e we ⟨x24, rfl, hx0, hx1, hC, hk⟩; have HX := Aside0.mk (And.intro hx0 (hx1 (by omega))); clear hx0 hx1; have m0_ := Aside0.mk (St.keep sb hC hk); clear ST; have ST := m0_; clear m0_; clear hC hk))
  have hw25 : wrap64 (1 + x24) = 1 + x24 := w64 (by have := HX.out; omega) (by have := HX.out; omega)
  have HW25 := Aside0.mk hw25
  clear hw25
  go_loopg [5] 7 (fun gg v5 wl => ∃ (kk : Int) (acc : List Int) (v12 : Value), v5 = .int .i64 kk ∧ kk.toNat ≤ gg ∧ Aside0 (0 ≤ kk ∧ 1 ≤ kk + acc.length ∧ kk + acc.length ≤ 6) ∧ Aside0 (St w0 w wq wl g bs n g4 #[.int .i64 s1, .int .i64 s2, .int .i64 s3, .slice A3 y.length c3, .slice A4 s5.length c4, .int .i64 s6, .int .i64 s7, .slice A7 s8.length c7, .int .i64 s9, .int .i64 s10, .int .i64 s11, .int .i64 s12, v12, .int .i64 x15, .int .i64 (wrap64 (1 + x17)), .int .i64 (wrap64 (1 + x20))] v12 acc))
  case atStart =>
    have h1_ := HX.out
    have h2_ := HW25.out
    exact ⟨wrap64 (1 + x24), [], .slice none 0 0, rfl, by omega, ⟨by simp only [List.length_nil]; omega⟩, ST⟩
  case round =>
    clear ST
    obtain ⟨kk, acc, v12, rfl, hgg, HK, ST⟩ := hrel
    by_cases hlt : kk > 0
    · have hlb : decide (kk > 0) = true := decide_eq_true hlt
      have hlc : decide (0 < kk) = true := decide_eq_true hlt
      go_upto_region 7 with (fail)
      refine start_ (n := 8) (S := fun w' => True) (ds := []) #[false, false, false, false, false, false, false, false] (by kernel_rfl) rfl rfl trivial (fun hHeld => ?_)
      refine with_tabW spec_l12DrawWorld.tab7 spec_l12DrawWorld.bits7 (fun HT_ HW_ => ?_)
      have BKA := Aside0.mk ST.out.drew.blk
      have S1 := Aside0.mk ST.out.drew
      refine pure_ (i := 0) (N := some 30) (v := ?_) (a' := ?_) #[true, false, false, false, false, false, false, false] rfl rfl (any_of HT_.out (by kernel_rfl)) (fun _ _ _ h => h) (Or.inl ⟨by rfl, ?_⟩) ?_ ?_
      rotate_left
      · intro w'
        go_simp
        with_reducible rfl
      rotate_left
      · simp only [Act.put, List.setIfInBounds_toArray, List.set_cons_zero, List.set_cons_succ, i64_w, i32_w]
        rfl
      refine pure_ (i := 2) (N := some 32) (v := ?_) (a' := ?_) #[true, false, true, false, false, false, false, false] rfl rfl (any_of HT_.out (by kernel_rfl)) (fun _ _ _ h => h) (Or.inl ⟨by rfl, ?_⟩) ?_ ?_
      rotate_left
      · intro w'
        go_simp
        with_reducible rfl
      rotate_left
      · simp only [Act.put, List.setIfInBounds_toArray, List.set_cons_zero, List.set_cons_succ, i64_w, i32_w]
        rfl
      refine inv_at [1, 3, 4, 5, 6, 7] (fun a0_ b a w' => ∃ (x33 : Int) (wz : World) (v13 : Value) (ys : List Int) (m3_ : Value) (m4_ : Value), a = putSel a0_ b [(1, 31, v12), (3, 33, m3_), (4, 34, m4_), (5, 35, v13), (6, 36, .pointer (some ⟨g4, 12, none⟩))] ∧ (b 7 = false → w'.heap[g4]? = some (.cells #[.int .i64 s1, .int .i64 s2, .int .i64 s3, .slice A3 y.length c3, .slice A4 s5.length c4, .int .i64 s6, .int .i64 s7, .slice A7 s8.length c7, .int .i64 s9, .int .i64 s10, .int .i64 s11, .int .i64 s12, v12, .int .i64 x15, .int .i64 (wrap64 (1 + x17)), .int .i64 (wrap64 (1 + x20))] 36 (0, 0))) ∧ (b 4 = false → St w0 w wq w' g bs n g4 #[.int .i64 s1, .int .i64 s2, .int .i64 s3, .slice A3 y.length c3, .slice A4 s5.length c4, .int .i64 s6, .int .i64 s7, .slice A7 s8.length c7, .int .i64 s9, .int .i64 s10, .int .i64 s11, .int .i64 s12, v12, .int .i64 x15, .int .i64 (wrap64 (1 + x17)), .int .i64 (wrap64 (1 + x20))] v12 acc) ∧ (b 4 = true → b 5 = false → (St w0 w wq wz g bs n g4 #[.int .i64 s1, .int .i64 s2, .int .i64 s3, .slice A3 y.length c3, .slice A4 s5.length c4, .int .i64 s6, .int .i64 s7, .slice A7 s8.length c7, .int .i64 s9, .int .i64 s10, .int .i64 s11, .int .i64 s12, v12, .int .i64 x15, .int .i64 (wrap64 (1 + x17)), .int .i64 (wrap64 (1 + x20))] v12 acc ∧ w' = wz.alloc (.cells #[.int .i64 x33] 3))) ∧ (b 5 = true → ys.length = acc.length + 1) ∧ (b 5 = true → b 7 = false → St w0 w wq w' g bs n g4 #[.int .i64 s1, .int .i64 s2, .int .i64 s3, .slice A3 y.length c3, .slice A4 s5.length c4, .int .i64 s6, .int .i64 s7, .slice A7 s8.length c7, .int .i64 s9, .int .i64 s10, .int .i64 s11, .int .i64 s12, v12, .int .i64 x15, .int .i64 (wrap64 (1 + x17)), .int .i64 (wrap64 (1 + x20))] v13 ys) ∧ (b 7 = true → St w0 w wq w' g bs n g4 #[.int .i64 s1, .int .i64 s2, .int .i64 s3, .slice A3 y.length c3, .slice A4 s5.length c4, .int .i64 s6, .int .i64 s7, .slice A7 s8.length c7, .int .i64 s9, .int .i64 s10, .int .i64 s11, .int .i64 s12, v13, .int .i64 x15, .int .i64 (wrap64 (1 + x17)), .int .i64 (wrap64 (1 + x20))] v13 ys) ∧ (b 3 = true → (m3_ : Value) = .int .i64 x33) ∧ (b 4 = true → (m4_ : Value) = .slice (some ⟨wz.heap.size, 0, none⟩) 1 1)) HT_.out HW_.out (by kernel_rfl) (by kernel_rfl) ?_ ?_ ?_
      · exact ⟨0, w, .bool false, [], .bool false, .bool false, by simp only [putSel, Bool.false_eq_true, if_false], fun _ => BKA.out, fun _ => S1.out, fun h_ => absurd h_ (by decide), fun h_ => absurd h_ (by decide), fun h_ => absurd h_ (by decide), fun h_ => absurd h_ (by decide), fun h_ => absurd h_ (by decide), fun h_ => absurd h_ (by decide)⟩
      · skip
        clear BKA S1
        refine steps_cons ?_ ?_
        · rintro b a w' ⟨x33, wz, v13, ys, m3_, m4_, ha, Q_BKA, Q_S1, Q_S4, Q_HYS, Q_S5, Q_S7, Q_X3_, Q_X4_⟩ hb_ hon hoff
          refine ⟨_, rfl, fun K hK => ?_⟩
          have e30 : a.tmps[30]? = some (.pointer (some ⟨g4, 12, none⟩)) := by rw [ha]; exact (putSel_off rfl).trans rfl
          replace ha := Aside0.mk ha
          have BKA := Aside0.mk (Q_BKA (hoff 7 (by kernel_rfl)))
          have hs_ : w'.cell? ⟨g4, 12, none⟩ = some v12 := (blk_cell BKA.out 12).trans rfl
          refine value_ (w1 := w') (v := v12) (by rfl) rfl ?_ ?_
          · go_simp
            (try simp only [i64_w])
            try rfl
          refine hK.out _ _ ⟨x33, wz, v13, ys, m3_, m4_, (by rw [ha.out]; exact putSel_upk 0 hb_ rfl rfl rfl), fun _ => BKA.out, fun h0_ => (Q_S1 h0_), fun h0_ h1_ => (Q_S4 h0_ h1_), fun h0_ => absurd ((hoff 5 (by kernel_rfl)).symm.trans h0_) (by decide), fun h0_ _ => absurd ((hoff 5 (by kernel_rfl)).symm.trans h0_) (by decide), fun h0_ => absurd ((hoff 7 (by kernel_rfl)).symm.trans h0_) (by decide), Q_X3_, Q_X4_⟩
        refine steps_cons ?_ ?_
        · rintro b a w' ⟨x33, wz, v13, ys, m3_, m4_, ha, Q_BKA, Q_S1, Q_S4, Q_HYS, Q_S5, Q_S7, Q_X3_, Q_X4_⟩ hb_ hon hoff
          refine ⟨_, rfl, fun K hK => ?_⟩
          have e32 : a.tmps[32]? = some (.pointer (some ⟨g, 0, none⟩)) := by rw [ha]; exact (putSel_off rfl).trans rfl
          replace ha := Aside0.mk ha
          have BKA := Aside0.mk (Q_BKA (hoff 7 (by kernel_rfl)))
          have S1 := Aside0.mk (Q_S1 (hoff 4 (by kernel_rfl)))
          refine goes_ Tryz.func53 (by kernel_rfl) rfl #[.pointer (some ⟨g, 0, none⟩), .int .i64 9000] (by rfl) rfl rfl (by first | (simp only [List.map_toArray, List.map_cons, List.map_nil, Act.eval, Array.getD_eq_getD_getElem?, Option.getD_some, e32]; done) | (simp only [List.map_toArray, List.map_cons, List.map_nil, Act.eval, Array.getD_eq_getD_getElem?, Option.getD_some, e32]; rfl)) ?_
          refine (curBelow S1.out.cur 9000).mono ?_
          rintro e w2 ⟨x33_, rfl, -, -, hC, hk⟩
          refine ⟨_, rfl, ?_⟩
          refine hK.out _ _ ⟨x33_, wz, v13, ys, (.int .i64 x33_), m4_, (by rw [ha.out]; exact putSel_upk 1 hb_ rfl rfl rfl), fun _ => (St.keep S1.out hC hk).blk, fun _ => St.keep S1.out hC hk, fun h0_ _ => absurd ((hoff 4 (by kernel_rfl)).symm.trans h0_) (by decide), fun h0_ => absurd ((hoff 5 (by kernel_rfl)).symm.trans h0_) (by decide), fun h0_ _ => absurd ((hoff 5 (by kernel_rfl)).symm.trans h0_) (by decide), fun h0_ => absurd ((hoff 7 (by kernel_rfl)).symm.trans h0_) (by decide), fun _ => rfl, fun h0_ => absurd ((hoff 4 (by kernel_rfl)).symm.trans h0_) (by decide)⟩
        refine steps_cons ?_ ?_
        · rintro b a w' ⟨x33, wz, v13, ys, m3_, m4_, ha, Q_BKA, Q_S1, Q_S4, Q_HYS, Q_S5, Q_S7, Q_X3_, Q_X4_⟩ hb_ hon hoff
          refine ⟨_, rfl, fun K hK => ?_⟩
          have e33 : a.tmps[33]? = some (m3_) := by rw [ha]; exact putSel_on (e := (3, 33, m3_)) 1 rfl rfl (hon 3 (by kernel_rfl)) rfl
          rw [Q_X3_ (hon 3 (by kernel_rfl))] at e33
          replace ha := Aside0.mk ha
          have BKA := Aside0.mk (Q_BKA (hoff 7 (by kernel_rfl)))
          have S1 := Aside0.mk (Q_S1 hb_)
          refine value_ (w1 := w'.alloc (.cells #[.int .i64 x33] 3)) (v := .slice (some ⟨w'.heap.size, 0, none⟩) 1 1) (by rfl) rfl (by first | (go_simp; done) | (go_simp; rfl) | (go_simp; constructor <;> rfl)) ?_
          refine hK.out _ _ ⟨x33, w', v13, ys, m3_, (.slice (some ⟨w'.heap.size, 0, none⟩) 1 1), (by rw [ha.out]; exact putSel_upk 2 hb_ rfl rfl rfl), fun _ => blk_alloc BKA.out _, fun h0_ => absurd ((up_self b 4).symm.trans h0_) (by decide), fun _ _ => ⟨S1.out, rfl⟩, fun h0_ => absurd ((hoff 5 (by kernel_rfl)).symm.trans h0_) (by decide), fun h0_ _ => absurd ((hoff 5 (by kernel_rfl)).symm.trans h0_) (by decide), fun h0_ => absurd ((hoff 7 (by kernel_rfl)).symm.trans h0_) (by decide), Q_X3_, fun _ => rfl⟩
        refine steps_cons ?_ ?_
        · rintro b a w' ⟨x33, wz, v13, ys, m3_, m4_, ha, Q_BKA, Q_S1, Q_S4, Q_HYS, Q_S5, Q_S7, Q_X3_, Q_X4_⟩ hb_ hon hoff
          refine ⟨_, rfl, fun K hK => ?_⟩
          have e31 : a.tmps[31]? = some (v12) := by rw [ha]; exact putSel_on (e := (1, 31, v12)) 0 rfl rfl (hon 1 (by kernel_rfl)) rfl
          have e34 : a.tmps[34]? = some (m4_) := by rw [ha]; exact putSel_on (e := (4, 34, m4_)) 2 rfl rfl (hon 4 (by kernel_rfl)) rfl
          rw [Q_X4_ (hon 4 (by kernel_rfl))] at e34
          replace ha := Aside0.mk ha
          have BKA := Aside0.mk (Q_BKA (hoff 7 (by kernel_rfl)))
          have S4 := Aside0.mk (Q_S4 (hon 4 (by kernel_rfl)) hb_)
          have hst := S4.out.1
          have hw_ := S4.out.2
          have hba_ := BKA.out
          clear S4 BKA Q_S1 Q_S4 Q_S5 Q_S7 Q_BKA
          subst hw_
          refine Kd.R_append_step (Kd.int .i64) w.heap.size (by rfl) (.tmp 31) (.tmp 34) 34 3 (.int .i64 0) 8 rfl Tryz.underlying34 info3 rfl (by decide) (by omega) v12 acc x33 [.int .i64 x33] (fun k => n ≤ k) (fun _ => False) (by simp only [Act.eval, Array.getD_eq_getD_getElem?, e31, Option.getD_some]) (by simp only [Act.eval, Array.getD_eq_getD_getElem?, e34, Option.getD_some]) rfl (fun _ hk => hk.elim) (fun _ h_ => Nat.le_trans hst.top h_) hst.row (Below.refl _ _) hst.low (by have := HK.out; omega) ?_
          intro v13_ w2 ho hb2 hg hat
          have hst2 := St.append hst hg ho
          refine hK.out _ _ ⟨x33, wz, v13_, (acc ++ [x33]), m3_, m4_, (by rw [ha.out]; exact putSel_upk 3 hb_ rfl rfl rfl), fun _ => hst2.blk, fun h0_ => absurd ((hon 4 (by kernel_rfl)).symm.trans h0_) (by decide), fun _ h1_ => absurd ((up_self b 5).symm.trans h1_) (by decide), fun _ => by rw [List.length_append, List.length_singleton], fun _ _ => hst2, fun h0_ => absurd ((hoff 7 (by kernel_rfl)).symm.trans h0_) (by decide), Q_X3_, Q_X4_⟩
        refine steps_cons ?_ ?_
        · rintro b a w' ⟨x33, wz, v13, ys, m3_, m4_, ha, Q_BKA, Q_S1, Q_S4, Q_HYS, Q_S5, Q_S7, Q_X3_, Q_X4_⟩ hb_ hon hoff
          refine ⟨_, rfl, fun K hK => ?_⟩
          have e4 : a.tmps[4]? = some (.pointer (some ⟨g4, 0, none⟩)) := by rw [ha]; exact (putSel_off rfl).trans rfl
          replace ha := Aside0.mk ha
          have BKA := Aside0.mk (Q_BKA (hoff 7 (by kernel_rfl)))
          have HYS := Aside0.mk (Q_HYS (hon 5 (by kernel_rfl)))
          have S5 := Aside0.mk (Q_S5 (hon 5 (by kernel_rfl)) (hoff 7 (by kernel_rfl)))
          refine value_ (w1 := w') (v := .pointer (some ⟨g4, 12, none⟩)) (by rfl) rfl ?_ ?_
          · go_simp
            (try simp only [i64_w])
            try rfl
          refine hK.out _ _ ⟨x33, wz, v13, ys, m3_, m4_, (by rw [ha.out]; exact putSel_upk 4 hb_ rfl rfl rfl), Q_BKA, fun h0_ => absurd ((hon 4 (by kernel_rfl)).symm.trans h0_) (by decide), fun _ h1_ => absurd ((hon 5 (by kernel_rfl)).symm.trans h1_) (by decide), Q_HYS, Q_S5, fun h0_ => absurd ((hoff 7 (by kernel_rfl)).symm.trans h0_) (by decide), Q_X3_, Q_X4_⟩
        refine steps_cons ?_ ?_
        · rintro b a w' ⟨x33, wz, v13, ys, m3_, m4_, ha, Q_BKA, Q_S1, Q_S4, Q_HYS, Q_S5, Q_S7, Q_X3_, Q_X4_⟩ hb_ hon hoff
          refine ⟨_, rfl, fun K hK => ?_⟩
          have e36 : a.tmps[36]? = some (.pointer (some ⟨g4, 12, none⟩)) := by rw [ha]; exact putSel_on (e := (6, 36, .pointer (some ⟨g4, 12, none⟩))) 4 rfl rfl (hon 6 (by kernel_rfl)) rfl
          have e35 : a.tmps[35]? = some (v13) := by rw [ha]; exact putSel_on (e := (5, 35, v13)) 3 rfl rfl (hon 5 (by kernel_rfl)) rfl
          replace ha := Aside0.mk ha
          have BKA := Aside0.mk (Q_BKA hb_)
          have HYS := Aside0.mk (Q_HYS (hon 5 (by kernel_rfl)))
          have S5 := Aside0.mk (Q_S5 (hon 5 (by kernel_rfl)) hb_)
          obtain ⟨A13, c13, e13_⟩ := Kd.R_slice S5.out.row
          subst e13_
          have hc_ : w'.cell? ⟨g4, 12, none⟩ = some v12 := (blk_cell BKA.out 12).trans rfl
          have hf_ : w'.frozen? ⟨g4, 12, none⟩ = false := blk_frozen BKA.out 12
          refine skip_ (w1 := w'.setCell ⟨g4, 12, none⟩ (.slice A13 ys.length c13)) (by rfl) rfl (by first | (go_simp; done) | (go_simp; rfl)) ?_
          refine hK.out _ _ ⟨x33, wz, (.slice A13 ys.length c13), ys, m3_, m4_, (by rw [ha.out]; exact putSel_none (v := undef) rfl), fun h0_ => absurd ((up_self b 7).symm.trans h0_) (by decide), fun h0_ => absurd ((hon 4 (by kernel_rfl)).symm.trans h0_) (by decide), fun _ h1_ => absurd ((hon 5 (by kernel_rfl)).symm.trans h1_) (by decide), Q_HYS, fun _ h1_ => absurd ((up_self b 7).symm.trans h1_) (by decide), fun _ => St.set S5.out 12 (.slice A13 ys.length c13), Q_X3_, Q_X4_⟩
        exact steps_nil
      rintro b a wh hall ⟨x33, wz, v13, ys, m3_, m4_, ha, Q_BKA, Q_S1, Q_S4, Q_HYS, Q_S5, Q_S7, Q_X3_, Q_X4_⟩
      clear BKA S1
      have hb1_ := hall 1 (by kernel_rfl)
      have hb3_ := hall 3 (by kernel_rfl)
      have hb4_ := hall 4 (by kernel_rfl)
      have hb5_ := hall 5 (by kernel_rfl)
      have hb6_ := hall 6 (by kernel_rfl)
      have hb7_ := hall 7 (by kernel_rfl)
      subst ha
      obtain rfl := Q_X3_ hb3_
      obtain rfl := Q_X4_ hb4_
      simp only [putSel, hb1_, hb3_, hb4_, hb5_, hb6_, hb7_, if_true, Act.put, List.setIfInBounds_toArray, List.set_cons_zero, List.set_cons_succ]
      clear Q_BKA
      clear Q_S1
      clear Q_S4
      have HYS := Aside0.mk (Q_HYS hb5_)
      clear Q_HYS
      clear Q_S5
      have S7 := Aside0.mk (Q_S7 hb7_)
      clear Q_S7
      clear hall hb1_ hb3_ hb4_ hb5_ hb6_ hb7_
      go_wp2
      have hw29 : wrap64 (kk - 1) = kk - 1 := w64 (by have := HK.out; omega) (by have := HK.out; omega)
      go_roundg (kk - 1).toNat
      case measure => omega
      case rel => exact ⟨wrap64 (kk - 1), ys, v13, by first | rfl | go_num, by rw [hw29]; exact Nat.le_refl _, ⟨by have := HK.out; have := HYS.out; rw [hw29]; omega⟩, ⟨by exact S7.out⟩⟩
    · have hlb : decide (kk > 0) = false := decide_eq_false hlt
      have hlc : decide (0 < kk) = false := decide_eq_false hlt
      have HA := Aside0.mk (show 1 ≤ acc.length ∧ acc.length ≤ 6 by have := HK.out; omega)
      clear HK hgg hlt
      obtain ⟨go, co, eo, gbo, glo, clo, hgo⟩ := Kd.R_form ST.out.row HA.out.1
      subst eo
      clear gbo glo hgo clo
      have HK := HA
      go_upto_if 38 with (first
        | (go_at_call 54; refine (curOnce (St.cur sb) 12).mono ?_; rintro e wd ⟨x38, rfl, hC, hk⟩; have m0_ := Aside0.mk (St.keep sb hC hk); clear ST; have ST := m0_; clear m0_; clear hC hk))
      (try simp only [Act.put, List.setIfInBounds_toArray, List.set_cons_zero, List.set_cons_succ])
      go_cut [] (fun wc => ∃ (gs : List S48) (v3 v12 : Value) (xs : List Int) (x14 x15 x16 : Int), Aside0 (gs.length ≤ 1 ∧ (∀ x ∈ gs, x.f0.size ≤ 3) ∧ xs.length ≤ 6) ∧ Aside0 (Kd.R k48 48 wq w.heap.size (fun k_ => k_ ≠ g2 ∧ k_ ≠ g) v3 gs) ∧ Aside0 (St w0 w wq wc g bs n g4 #[.int .i64 s1, .int .i64 s2, .int .i64 s3, v3, .slice A4 s5.length c4, .int .i64 s6, .int .i64 s7, .slice A7 s8.length c7, .int .i64 s9, .int .i64 s10, .int .i64 s11, .int .i64 s12, v12, .int .i64 x14, .int .i64 x15, .int .i64 x16] v12 xs))
      case first =>
        obtain ⟨hd0, hd1, hd2, hd3, hd4, hd5, hd6, hd7, hd8, hd9, hd10, hd11, hd12, hd13, hd14, hd15⟩ := Pst.c16 (St.blk sb); obtain ⟨hf0, hf1, hf2, hf3, hf4, hf5, hf6, hf7, hf8, hf9, hf10, hf11, hf12, hf13, hf14, hf15⟩ := Pst.f16 (St.blk sb)
        have HY6 := Aside0.mk (show y.length ≤ 1 ∧ (∀ x ∈ y, x.f0.size ≤ 3) ∧ acc.length ≤ 6 from ⟨HY.out.1, HY.out.2, HK.out.2⟩)
        cases x38 with
        | false =>
          go_wp2
          go_meet
          case rel => exact ⟨y, _, _, acc, _, _, _, HY6, HR3, ⟨sb⟩⟩
        | true =>
          clear hd0 hd1 hd2 hd3 hd4 hd5 hd6 hd7 hd8 hd9 hd10 hd11 hd12 hd13 hd14 hd15 hf0 hf1 hf2 hf3 hf4 hf5 hf6 hf7 hf8 hf9 hf10 hf11 hf12 hf13 hf14 hf15
          go_upto_if 41 with (first
            | (go_at_call 53; refine (curBelow (St.cur sb) 5).mono ?_; rintro e wx ⟨x40, rfl, hx0, hx1, hC, hk⟩; have HX4 := Aside0.mk (And.intro hx0 (hx1 (by omega))); clear hx0 hx1; have m0_ := Aside0.mk (St.keep sb hC hk); clear ST; have ST := m0_; clear m0_; clear hC hk))
          obtain rfl | rfl | rfl | rfl | rfl : x40 = 0 ∨ x40 = 1 ∨ x40 = 2 ∨ x40 = 3 ∨ x40 = 4 := by have := HX4.out; omega
          · clear HX4
            obtain ⟨hd0, hd1, hd2, hd3, hd4, hd5, hd6, hd7, hd8, hd9, hd10, hd11, hd12, hd13, hd14, hd15⟩ := Pst.c16 (St.blk sb); obtain ⟨hf0, hf1, hf2, hf3, hf4, hf5, hf6, hf7, hf8, hf9, hf10, hf11, hf12, hf13, hf14, hf15⟩ := Pst.f16 (St.blk sb)
            go_wp2
            go_meet
            case rel => exact ⟨[], _, _, acc, _, _, _, ⟨by simp, by simp, HY6.out.2.2⟩, ⟨Kd.R_nil _ _ _ _ _⟩, ⟨St.set sb 3 (.slice none 0 0)⟩⟩
          · clear HX4
            go_upto_region 13 with (fail)
            refine start_ (n := 7) (S := fun w' => True) (ds := []) #[false, false, false, false, false, false, false] (by kernel_rfl) rfl rfl trivial (fun hHeld => ?_)
            refine with_tabW spec_l12DrawWorld.tab13 spec_l12DrawWorld.bits13 (fun HT_ HW_ => ?_)
            have S1 := Aside0.mk ST.out.drew
            refine pure_ (i := 0) (N := some 47) (v := ?_) (a' := ?_) #[true, false, false, false, false, false, false] rfl rfl (any_of HT_.out (by kernel_rfl)) (fun _ _ _ h => h) (Or.inl ⟨by rfl, ?_⟩) ?_ ?_
            rotate_left
            · intro w'
              go_simp
              with_reducible rfl
            rotate_left
            · simp only [Act.put, List.setIfInBounds_toArray, List.set_cons_zero, List.set_cons_succ, i64_w, i32_w]
              rfl
            refine pure_ (i := 2) (N := some 49) (v := ?_) (a' := ?_) #[true, false, true, false, false, false, false] rfl rfl (any_of HT_.out (by kernel_rfl)) (fun _ _ _ h => h) (Or.inl ⟨by rfl, ?_⟩) ?_ ?_
            rotate_left
            · intro w'
              go_simp
              with_reducible rfl
            rotate_left
            · simp only [Act.put, List.setIfInBounds_toArray, List.set_cons_zero, List.set_cons_succ, i64_w, i32_w]
              rfl
            refine inv_at [1, 3, 4, 5, 6] (fun a0_ b a w' => ∃ (v50 : Value) (x51 : Int) (m4_ : Value), a = putSel a0_ b [(1, 48, .slice (some ⟨go, 0, none⟩) acc.length co), (3, 50, v50), (4, 51, m4_), (5, 52, .pointer (some ⟨go, 0, none⟩))] ∧ (b 6 = false → St w0 w wq w' g bs n g4 #[.int .i64 s1, .int .i64 s2, .int .i64 s3, .slice A3 y.length c3, .slice A4 s5.length c4, .int .i64 s6, .int .i64 s7, .slice A7 s8.length c7, .int .i64 s9, .int .i64 s10, .int .i64 s11, .int .i64 s12, .slice (some ⟨go, 0, none⟩) acc.length co, .int .i64 x15, .int .i64 (wrap64 (1 + x17)), .int .i64 (wrap64 (1 + x20))] (.slice (some ⟨go, 0, none⟩) acc.length co) acc) ∧ (b 3 = true → b 4 = false → Kd.R (Kd.int .i64) 3 w' w.heap.size (fun _ => True) v50 [-1, 100000, 100001]) ∧ (b 6 = true → St w0 w wq w' g bs n g4 #[.int .i64 s1, .int .i64 s2, .int .i64 s3, .slice A3 y.length c3, .slice A4 s5.length c4, .int .i64 s6, .int .i64 s7, .slice A7 s8.length c7, .int .i64 s9, .int .i64 s10, .int .i64 s11, .int .i64 s12, .slice (some ⟨go, 0, none⟩) acc.length co, .int .i64 x15, .int .i64 (wrap64 (1 + x17)), .int .i64 (wrap64 (1 + x20))] (.slice (some ⟨go, 0, none⟩) acc.length co) (acc.set 0 x51)) ∧ (b 4 = true → (m4_ : Value) = .int .i64 x51)) HT_.out HW_.out (by kernel_rfl) (by kernel_rfl) ?_ ?_ ?_
            · exact ⟨.bool false, 0, .bool false, by simp only [putSel, Bool.false_eq_true, if_false], fun _ => S1.out, fun h_ => absurd h_ (by decide), fun h_ => absurd h_ (by decide), fun h_ => absurd h_ (by decide)⟩
            · skip
              clear S1
              refine steps_cons ?_ ?_
              · rintro b a w' ⟨v50, x51, m4_, ha, Q_S1, Q_HL, Q_S6, Q_X4_⟩ hb_ hon hoff
                refine ⟨_, rfl, fun K hK => ?_⟩
                have e47 : a.tmps[47]? = some (.pointer (some ⟨g4, 12, none⟩)) := by rw [ha]; exact (putSel_off rfl).trans rfl
                replace ha := Aside0.mk ha
                have S1 := Aside0.mk (Q_S1 (hoff 6 (by kernel_rfl)))
                have hs_ : w'.cell? ⟨g4, 12, none⟩ = some (.slice (some ⟨go, 0, none⟩) acc.length co) := (blk_cell S1.out.blk 12).trans rfl
                refine value_ (w1 := w') (v := .slice (some ⟨go, 0, none⟩) acc.length co) (by rfl) rfl ?_ ?_
                · go_simp
                  (try simp only [i64_w])
                  try rfl
                refine hK.out _ _ ⟨v50, x51, m4_, (by rw [ha.out]; exact putSel_upk 0 hb_ rfl rfl rfl), Q_S1, Q_HL, fun h0_ => absurd ((hoff 6 (by kernel_rfl)).symm.trans h0_) (by decide), Q_X4_⟩
              refine steps_cons ?_ ?_
              · rintro b a w' ⟨v50, x51, m4_, ha, Q_S1, Q_HL, Q_S6, Q_X4_⟩ hb_ hon hoff
                refine ⟨_, rfl, fun K hK => ?_⟩
                replace ha := Aside0.mk ha
                have S1 := Aside0.mk (Q_S1 (hoff 6 (by kernel_rfl)))
                refine Kd.R_lit_step (Kd.int .i64) _ 3 ?hg (N := 50) ?hd (xs := ([-1, 100000, 100001] : List Int)) (inner := [.int .i64 (-1), .int .i64 100000, .int .i64 100001]) (ok := fun _ => True) (okp := fun _ => True) ?hr ?hp (fun _ hk => hk) trivial (Below.refl _ _) (Nat.le_refl _) (by simp) ?_; (case hd => rfl); (case hg => rfl); (case hr => first | (go_simp; done) | (go_simp; rfl)); (case hp => exact (Reps.one (show Kd.M (Kd.int .i64) _ _ _ (-1) [.int .i64 (-1)] from rfl) (Reps.one (show Kd.M (Kd.int .i64) _ _ _ 100000 [.int .i64 100000] from rfl) (Reps.one (show Kd.M (Kd.int .i64) _ _ _ 100001 [.int .i64 100001] from rfl) (Reps.none _ _)))))
                intro v50_ w2 ho hb hg_ hnew_
                clear hg_ hnew_
                refine hK.out _ _ ⟨v50_, x51, m4_, (by rw [ha.out]; exact putSel_upk 1 hb_ rfl rfl rfl), fun _ => St.below S1.out hb, fun _ _ => Kd.R_lower ho S1.out.low, fun h0_ => absurd ((hoff 6 (by kernel_rfl)).symm.trans h0_) (by decide), fun h0_ => absurd ((hoff 4 (by kernel_rfl)).symm.trans h0_) (by decide)⟩
              refine steps_cons ?_ ?_
              · rintro b a w' ⟨v50, x51, m4_, ha, Q_S1, Q_HL, Q_S6, Q_X4_⟩ hb_ hon hoff
                refine ⟨_, rfl, fun K hK => ?_⟩
                have e49 : a.tmps[49]? = some (.pointer (some ⟨g, 0, none⟩)) := by rw [ha]; exact (putSel_off rfl).trans rfl
                have e50 : a.tmps[50]? = some (v50) := by rw [ha]; exact putSel_on (e := (3, 50, v50)) 1 rfl rfl (hon 3 (by kernel_rfl)) rfl
                replace ha := Aside0.mk ha
                have S1 := Aside0.mk (Q_S1 (hoff 6 (by kernel_rfl)))
                have HL := Aside0.mk (Q_HL (hon 3 (by kernel_rfl)) hb_)
                obtain ⟨Al, cl, el_⟩ := Kd.R_slice HL.out
                subst el_
                refine goes_ Tryz.func52 (by kernel_rfl) rfl #[.pointer (some ⟨g, 0, none⟩), .slice Al ([-1, 100000, 100001] : List Int).length cl] (by rfl) rfl rfl (by first | (simp only [List.map_toArray, List.map_cons, List.map_nil, Act.eval, Array.getD_eq_getD_getElem?, Option.getD_some, e49, e50]; done) | (simp only [List.map_toArray, List.map_cons, List.map_nil, Act.eval, Array.getD_eq_getD_getElem?, Option.getD_some, e49, e50]; rfl)) ?_
                refine (curPick S1.out.cur HL.out (by decide)).mono ?_
                rintro e w2 ⟨x51_, rfl, -, hC, hk⟩
                refine ⟨_, rfl, ?_⟩
                refine hK.out _ _ ⟨(.slice Al ([-1, 100000, 100001] : List Int).length cl), x51_, (.int .i64 x51_), (by rw [ha.out]; exact putSel_upk 2 hb_ rfl rfl rfl), fun _ => St.keep S1.out hC hk, fun _ h1_ => absurd ((up_self b 4).symm.trans h1_) (by decide), fun h0_ => absurd ((hoff 6 (by kernel_rfl)).symm.trans h0_) (by decide), fun _ => rfl⟩
              refine steps_cons ?_ ?_
              · rintro b a w' ⟨v50, x51, m4_, ha, Q_S1, Q_HL, Q_S6, Q_X4_⟩ hb_ hon hoff
                refine ⟨_, rfl, fun K hK => ?_⟩
                have e48 : a.tmps[48]? = some (.slice (some ⟨go, 0, none⟩) acc.length co) := by rw [ha]; exact putSel_on (e := (1, 48, .slice (some ⟨go, 0, none⟩) acc.length co)) 0 rfl rfl (hon 1 (by kernel_rfl)) rfl
                replace ha := Aside0.mk ha
                have S1 := Aside0.mk (Q_S1 (hoff 6 (by kernel_rfl)))
                have hl0_ : (0 < acc.length) = True := eq_true (by have := HK.out; omega)
                refine value_ (w1 := w') (v := .pointer (some ⟨go, 0, none⟩)) (by rfl) rfl ?_ ?_
                · go_simp
                  (try simp only [i64_w])
                  try rfl
                refine hK.out _ _ ⟨v50, x51, m4_, (by rw [ha.out]; exact putSel_upk 3 hb_ rfl rfl rfl), Q_S1, fun _ h1_ => absurd ((hon 4 (by kernel_rfl)).symm.trans h1_) (by decide), fun h0_ => absurd ((hoff 6 (by kernel_rfl)).symm.trans h0_) (by decide), Q_X4_⟩
              refine steps_cons ?_ ?_
              · rintro b a w' ⟨v50, x51, m4_, ha, Q_S1, Q_HL, Q_S6, Q_X4_⟩ hb_ hon hoff
                refine ⟨_, rfl, fun K hK => ?_⟩
                have e52 : a.tmps[52]? = some (.pointer (some ⟨go, 0, none⟩)) := by rw [ha]; exact putSel_on (e := (5, 52, .pointer (some ⟨go, 0, none⟩))) 3 rfl rfl (hon 5 (by kernel_rfl)) rfl
                have e51 : a.tmps[51]? = some (m4_) := by rw [ha]; exact putSel_on (e := (4, 51, m4_)) 2 rfl rfl (hon 4 (by kernel_rfl)) rfl
                rw [Q_X4_ (hon 4 (by kernel_rfl))] at e51
                replace ha := Aside0.mk ha
                have S1 := Aside0.mk (Q_S1 hb_)
                obtain ⟨hc_, hf_⟩ := Kd.R_celln 0 S1.out.row (0 : Int) (by omega) (by have := HK.out; omega)
                rw [show ((0 : Int)).toNat = 0 from rfl] at hc_ hf_
                refine skip_ (w1 := w'.setCell ⟨go, 0, none⟩ (.int .i64 x51)) (by rfl) rfl (by first | (go_simp; done) | (go_simp; rfl)) ?_
                refine hK.out _ _ ⟨v50, x51, m4_, (by rw [ha.out]; exact putSel_none (v := undef) rfl), fun h0_ => absurd ((up_self b 6).symm.trans h0_) (by decide), fun _ h1_ => absurd ((hon 4 (by kernel_rfl)).symm.trans h1_) (by decide), fun _ => St.put S1.out x51, Q_X4_⟩
              exact steps_nil
            rintro b a wt hall ⟨v50, x51, m4_, ha, Q_S1, Q_HL, Q_S6, Q_X4_⟩
            clear S1
            have hb1_ := hall 1 (by kernel_rfl)
            have hb3_ := hall 3 (by kernel_rfl)
            have hb4_ := hall 4 (by kernel_rfl)
            have hb5_ := hall 5 (by kernel_rfl)
            have hb6_ := hall 6 (by kernel_rfl)
            subst ha
            obtain rfl := Q_X4_ hb4_
            simp only [putSel, hb1_, hb3_, hb4_, hb5_, hb6_, if_true, Act.put, List.setIfInBounds_toArray, List.set_cons_zero, List.set_cons_succ]
            clear Q_S1
            clear Q_HL
            have S6 := Aside0.mk (Q_S6 hb6_)
            clear Q_S6
            clear hall hb1_ hb3_ hb4_ hb5_ hb6_
            go_wp2
            go_meet
            case rel => exact ⟨y, _, _, acc.set 0 x51, _, _, _, ⟨HY6.out.1, HY6.out.2.1, by rw [List.length_set]; exact HY6.out.2.2⟩, HR3, by rw [show acc.length = (acc.set 0 x51).length from (List.length_set ..).symm] at S6; exact S6⟩
          · clear HX4
            go_wp2_with (first
              | ((with_reducible refine gate_dst (N := 56) rfl ?_); refine Kd.R_lit (Kd.int .i64) _ 3 ?hg (N := 56) ?hd (xs := ([-1, 50, 51] : List Int)) (inner := [.int .i64 (-1), .int .i64 50, .int .i64 51]) (ok := fun _ => True) (okp := fun _ => True) ?hr ?hp (fun _ hk => hk) trivial (Below.refl _ _) (Nat.le_refl _) (by simp) ?_; (case hd => rfl); (case hg => rfl); (case hr => first | (go_simp; done) | (go_simp; rfl)); (case hp => exact (Reps.one (show Kd.M (Kd.int .i64) _ _ _ (-1) [.int .i64 (-1)] from rfl) (Reps.one (show Kd.M (Kd.int .i64) _ _ _ 50 [.int .i64 50] from rfl) (Reps.one (show Kd.M (Kd.int .i64) _ _ _ 51 [.int .i64 51] from rfl) (Reps.none _ _))))); intro vl wl ho hb hg_ hnew_; clear hg_ hnew_; have HL := Aside0.mk (Kd.R_lower ho (St.low sb)); have m0_ := Aside0.mk (St.below sb hb); clear ST; have ST := m0_; clear m0_; clear hb ho; obtain ⟨Al, cl, el_⟩ := Kd.R_slice HL.out; subst el_)
              | (go_at_call 52; refine (curPick (St.cur sb) (Pst.qr HL.out) (by decide)).mono ?_; rintro e wp ⟨px, rfl, -, hC, hk⟩; have m0_ := Aside0.mk (St.keep sb hC hk); clear ST; have ST := m0_; clear m0_; clear hC hk; obtain ⟨hd0, hd1, hd2, hd3, hd4, hd5, hd6, hd7, hd8, hd9, hd10, hd11, hd12, hd13, hd14, hd15⟩ := Pst.c16 (St.blk sb); obtain ⟨hf0, hf1, hf2, hf3, hf4, hf5, hf6, hf7, hf8, hf9, hf10, hf11, hf12, hf13, hf14, hf15⟩ := Pst.f16 (St.blk sb)))
            go_meet
            case rel => exact ⟨y, _, _, acc, _, _, _, HY6, HR3, ⟨St.set sb 13 (.int .i64 px)⟩⟩
          · clear HX4
            go_wp2_with (first
              | ((with_reducible refine gate_dst (N := 62) rfl ?_); refine Kd.R_lit (Kd.int .i64) _ 3 ?hg (N := 62) ?hd (xs := ([0, 50, 51] : List Int)) (inner := [.int .i64 0, .int .i64 50, .int .i64 51]) (ok := fun _ => True) (okp := fun _ => True) ?hr ?hp (fun _ hk => hk) trivial (Below.refl _ _) (Nat.le_refl _) (by simp) ?_; (case hd => rfl); (case hg => rfl); (case hr => first | (go_simp; done) | (go_simp; rfl)); (case hp => exact (Reps.one (show Kd.M (Kd.int .i64) _ _ _ 0 [.int .i64 0] from rfl) (Reps.one (show Kd.M (Kd.int .i64) _ _ _ 50 [.int .i64 50] from rfl) (Reps.one (show Kd.M (Kd.int .i64) _ _ _ 51 [.int .i64 51] from rfl) (Reps.none _ _))))); intro vl wl ho hb hg_ hnew_; clear hg_ hnew_; have HL := Aside0.mk (Kd.R_lower ho (St.low sb)); have m0_ := Aside0.mk (St.below sb hb); clear ST; have ST := m0_; clear m0_; clear hb ho; obtain ⟨Al, cl, el_⟩ := Kd.R_slice HL.out; subst el_)
              | (go_at_call 52; refine (curPick (St.cur sb) (Pst.qr HL.out) (by decide)).mono ?_; rintro e wp ⟨px, rfl, -, hC, hk⟩; have m0_ := Aside0.mk (St.keep sb hC hk); clear ST; have ST := m0_; clear m0_; clear hC hk; obtain ⟨hd0, hd1, hd2, hd3, hd4, hd5, hd6, hd7, hd8, hd9, hd10, hd11, hd12, hd13, hd14, hd15⟩ := Pst.c16 (St.blk sb); obtain ⟨hf0, hf1, hf2, hf3, hf4, hf5, hf6, hf7, hf8, hf9, hf10, hf11, hf12, hf13, hf14, hf15⟩ := Pst.f16 (St.blk sb)))
            go_meet
            case rel => exact ⟨y, _, _, acc, _, _, _, HY6, HR3, ⟨St.set sb 14 (.int .i64 px)⟩⟩
          · clear HX4
            go_wp2_with (first
              | ((with_reducible refine gate_dst (N := 68) rfl ?_); refine Kd.R_lit (Kd.int .i64) _ 3 ?hg (N := 68) ?hd (xs := ([0, 12, 13] : List Int)) (inner := [.int .i64 0, .int .i64 12, .int .i64 13]) (ok := fun _ => True) (okp := fun _ => True) ?hr ?hp (fun _ hk => hk) trivial (Below.refl _ _) (Nat.le_refl _) (by simp) ?_; (case hd => rfl); (case hg => rfl); (case hr => first | (go_simp; done) | (go_simp; rfl)); (case hp => exact (Reps.one (show Kd.M (Kd.int .i64) _ _ _ 0 [.int .i64 0] from rfl) (Reps.one (show Kd.M (Kd.int .i64) _ _ _ 12 [.int .i64 12] from rfl) (Reps.one (show Kd.M (Kd.int .i64) _ _ _ 13 [.int .i64 13] from rfl) (Reps.none _ _))))); intro vl wl ho hb hg_ hnew_; clear hg_ hnew_; have HL := Aside0.mk (Kd.R_lower ho (St.low sb)); have m0_ := Aside0.mk (St.below sb hb); clear ST; have ST := m0_; clear m0_; clear hb ho; obtain ⟨Al, cl, el_⟩ := Kd.R_slice HL.out; subst el_)
              | (go_at_call 52; refine (curPick (St.cur sb) (Pst.qr HL.out) (by decide)).mono ?_; rintro e wp ⟨px, rfl, -, hC, hk⟩; have m0_ := Aside0.mk (St.keep sb hC hk); clear ST; have ST := m0_; clear m0_; clear hC hk; obtain ⟨hd0, hd1, hd2, hd3, hd4, hd5, hd6, hd7, hd8, hd9, hd10, hd11, hd12, hd13, hd14, hd15⟩ := Pst.c16 (St.blk sb); obtain ⟨hf0, hf1, hf2, hf3, hf4, hf5, hf6, hf7, hf8, hf9, hf10, hf11, hf12, hf13, hf14, hf15⟩ := Pst.f16 (St.blk sb)))
            go_meet
            case rel => exact ⟨y, _, _, acc, _, _, _, HY6, HR3, ⟨St.set sb 15 (.int .i64 px)⟩⟩
      case rest =>
        clear ST HR3
        obtain ⟨gs, v3, v12, xs, x14, x15b, x16, HX2, HR3, ST⟩ := hcut
        obtain ⟨Ag, cg, eg⟩ := Kd.R_slice HR3.out
        obtain ⟨Ax, cx, ex⟩ := Kd.R_slice ST.out.row
        subst eg ex
        go_wp2_with (first
          | ((with_reducible refine gate_ (.load 36 (.tmp 4)) rfl ?_); refine wpList_load_row rfl 36 (.tmp 4) rfl g4 rfl 36 _ _ _ (St.blk sb) Tryz.underlying36 rfl (by kernel_rfl) ?_)
          | ((with_reducible refine gate_ (.store 36 (.tmp 2) (.tmp 71)) rfl ?_); refine storeAll rfl 36 (.tmp 2) (.tmp 71) rfl g2 #[.int .i64 s1, .int .i64 s2, .int .i64 s3, .slice Ag gs.length cg, .slice A4 s5.length c4, .int .i64 s6, .int .i64 s7, .slice A7 s8.length c7, .int .i64 s9, .int .i64 s10, .int .i64 s11, .int .i64 s12, .slice Ax xs.length cx, .int .i64 x14, .int .i64 x15b, .int .i64 x16] rfl rfl 36 #[.int .i64 0, .int .i64 0, .int .i64 0, .slice none 0 0, .slice none 0 0, .int .i64 0, .int .i64 0, .slice none 0 0, .int .i64 0, .int .i64 0, .int .i64 0, .int .i64 0, .slice none 0 0, .int .i64 0, .int .i64 0, .int .i64 0] ?hb (by kernel_rfl) rfl (by simp [oneInt, oneSlice]) ?_; (case hb => exact St.old sb BK2.out NE2.out); intro wz hbs hgs; have BKz := Aside0.mk hbs; have hst := ST.out; have HC := Aside0.mk (Cur.grown (St.cur sb) hgs (fun x_ e_ => by cases e_; exact GE2.out)); have KF := Aside0.mk (show Kept wq wz (fun k_ => k_ = g ∨ k_ = g2) from Kept.of_grown hgs ⟨hst.2.1.1, fun i hi hn => hst.2.1.2 i hi (fun e_ => hn (.inl e_)) (by simp)⟩ (fun k_ e_ => .inl (.inr (Option.some.inj e_).symm))); have HL := Aside0.mk (Kd.R_kept (St.row sb) (S := fun k => k = g2) ⟨hgs.size, fun i hi hn => hgs.block i hi (fun he => hn (Option.some.inj he))⟩ (fun k_ h_ e_ => by have h1_ := blk_lt BK2.out; have h2_ := hst.2.2.2.2; have h3_ : n ≤ k_ := h_; have h4_ : k_ = g2 := e_; omega)); clear ST hst hbs hgs))
        refine bodyPost_ret (results_cell_row rfl _ _ g2 36 #[.int .i64 s1, .int .i64 s2, .int .i64 s3, .slice Ag gs.length cg, .slice A4 s5.length c4, .int .i64 s6, .int .i64 s7, .slice A7 s8.length c7, .int .i64 s9, .int .i64 s10, .int .i64 s11, .int .i64 s12, .slice Ax xs.length cx, .int .i64 x14, .int .i64 x15b, .int .i64 x16] (0, 0) _ rfl BKz.out Tryz.underlying36 rfl (by kernel_rfl)) rfl ?_
        exact ⟨s1, s2, s3, gs, s5, s6, s7, s8, s9, s10, s11, s12, xs, x14, x15b, x16, _, _, _, _, rfl, ⟨HX2.out.1, HX2.out.2.1, HS.out.2.2.1, HS.out.2.2.2, HX2.out.2.2⟩,
          Kd.R_mono (Kd.R_kept HR3.out KF.out (fun _ hk he => he.elim hk.2 hk.1)) (fun _ _ => trivial), Kd.R_mono (Kd.R_kept HR4.out KF.out (fun _ hk he => he.elim hk.2 hk.1)) (fun _ _ => trivial), Kd.R_mono (Kd.R_kept HR7.out KF.out (fun _ hk he => he.elim hk.2 hk.1)) (fun _ _ => trivial),
          Kd.R_mono HL.out (fun _ _ => trivial), HC.out.bel⟩

set_option maxHeartbeats 8000000 in
/-- A drawn world, out of the bytes. -/
theorem spec_DrawWorldOk.draws (A0 : Option Addr) (c0 : Nat) (bs : List Int) (w : World) (hr0 : Kd.C (Kd.int .u8) w A0 bs.length bs) (hc0 : bs.length ≤ c0) (hl : bs.length ≤ 1048576) :
    Calls Tryz.prog 15 #[.slice A0 bs.length c0] w fun e w' => Drawn w w.heap.size e w' := by
  have hu36 := Tryz.underlying36
  obtain ⟨hh, k0, hk0⟩ := drawNew bs hl
  have AN := Aside0.mk (hk0 k0 (Nat.le_refl _))
  clear hk0
  have HB := Aside0.mk (Below.refl w.heap.size w)
  have HR0 := Aside0.mk hr0
  have HC0 := Aside0.mk hc0
  have HL0 := Aside0.mk hl
  clear hr0 hc0 hl
  go_enter Tryz.func15, Tryz.ntmps15
  go_wp2_with (first
    | ((with_reducible refine gate_dst (N := 2) rfl ?_); refine box_event ?hg (N := 2) ?hd (cs := #[.int .i64 0, .int .i64 0, .int .i64 0, .slice none 0 0, .slice none 0 0, .int .i64 0, .int .i64 0, .slice none 0 0, .int .i64 0, .int .i64 0, .int .i64 0, .int .i64 0, .slice none 0 0, .int .i64 0, .int .i64 0, .int .i64 0]) (t := 36) ?hr ?_; (case hd => rfl); (case hg => rfl); (case hr => first | (go_simp; done) | (go_simp; rfl)); intro g2 hg wa hbox hb; have GE2 := Aside0.mk (show w.heap.size ≤ g2 by rw [hg]; exact below_size Pst.bel); have n1_ := Aside0.mk (below_step Pst.bel hb); clear HB; have HB := n1_; have BK2 := Aside0.mk hbox; clear n1_ hb hbox hg)
    | (go_at_call 34; refine (spec_l01New.calls k0 A0 c0 bs bs 0 hh _ _ (Below.refl _ _) (Kd.C_below HR0.out Pst.bel) HC0.out AN.out).mono ?_; rintro e wn ⟨gc, rfl, hi, hb0, hb⟩; have HC := Aside0.mk (show Cur _ wn wn gc bs from ⟨IsS81.lt hi, 0, hh, ⟨Int.le_refl _, Int.natCast_nonneg _, HL0.out⟩, hi, hb0, KeepBut.refl _ _ _⟩); have GW := Aside0.mk (Nat.le_trans (below_size Pst.bel) hb.size : w.heap.size ≤ wn.heap.size); clear hi hb0 hb)
    | (go_at_call 33; refine (spec_l12DrawWorld.draws gc bs _ _ HC.out).mono ?_; rintro e wd ⟨s1, s2, s3, s4, s5, s6, s7, s8, s9, s10, s11, s12, s13, s14, s15, s16, v3, v4, v7, v12, rfl, hs, hr3, hr4, hr7, hr12, hb0⟩; clear HC; have n1_ := Aside0.mk (below_step Pst.bel hb0); have n2_ := Aside0.mk (blk_below (Pst.qb BK2.out) hb0); clear HB BK2; have HB := n1_; have BK2 := n2_; clear n1_ n2_ hb0; obtain ⟨A3, c3, e3⟩ := Kd.R_slice hr3; obtain ⟨A4, c4, e4⟩ := Kd.R_slice hr4; obtain ⟨A7, c7, e7⟩ := Kd.R_slice hr7; obtain ⟨A12, c12, e12⟩ := Kd.R_slice hr12; subst e3 e4 e7 e12; have HR3 := Aside0.mk hr3; have HR4 := Aside0.mk hr4; have HR7 := Aside0.mk hr7; have HR12 := Aside0.mk hr12; have HS := Aside0.mk hs; clear hr3 hr4 hr7 hr12 hs)
    | ((with_reducible refine gate_ (.store 36 (.tmp 2) (.tmp 5)) rfl ?_); refine storeAll rfl 36 (.tmp 2) (.tmp 5) rfl g2 #[.int .i64 s1, .int .i64 s2, .int .i64 s3, .slice A3 s4.length c3, .slice A4 s5.length c4, .int .i64 s6, .int .i64 s7, .slice A7 s8.length c7, .int .i64 s9, .int .i64 s10, .int .i64 s11, .int .i64 s12, .slice A12 s13.length c12, .int .i64 s14, .int .i64 s15, .int .i64 s16] rfl rfl 36 #[.int .i64 0, .int .i64 0, .int .i64 0, .slice none 0 0, .slice none 0 0, .int .i64 0, .int .i64 0, .slice none 0 0, .int .i64 0, .int .i64 0, .int .i64 0, .int .i64 0, .slice none 0 0, .int .i64 0, .int .i64 0, .int .i64 0] ?hb (by kernel_rfl) rfl (by simp [oneInt, oneSlice]) ?_; (case hb => exact Pst.qb BK2.out); intro wz hbs hgs; have BKz := Aside0.mk hbs; have KS := Aside0.mk (show Kept wd wz (fun k => k = g2) from ⟨hgs.size, fun i hi hn => hgs.block i hi (fun he => hn (Option.some.inj he))⟩); have HBz := Aside0.mk (pw_below_grown HB.out (some g2) HB.out.size hgs (fun k_ hk_ => by cases hk_; exact GE2.out)); clear hbs hgs))
  refine bodyPost_ret (results_cell_row rfl _ _ g2 36 #[.int .i64 s1, .int .i64 s2, .int .i64 s3, .slice A3 s4.length c3, .slice A4 s5.length c4, .int .i64 s6, .int .i64 s7, .slice A7 s8.length c7, .int .i64 s9, .int .i64 s10, .int .i64 s11, .int .i64 s12, .slice A12 s13.length c12, .int .i64 s14, .int .i64 s15, .int .i64 s16] (0, 0) _ rfl BKz.out Tryz.underlying36 rfl (by kernel_rfl)) rfl ?_
  exact ⟨s1, s2, s3, s4, s5, s6, s7, s8, s9, s10, s11, s12, s13, s14, s15, s16, _, _, _, _, rfl, HS.out, Kd.R_lower (Kd.R_mono (Kd.R_kept (Kd.R_types HR3.out BK2.out (by decide)) KS.out (fun _ hk => hk.2)) (fun _ _ => trivial)) GW.out, Kd.R_lower (Kd.R_mono (Kd.R_kept (Kd.R_types HR4.out BK2.out (by decide)) KS.out (fun _ hk => hk.2)) (fun _ _ => trivial)) GW.out, Kd.R_lower (Kd.R_mono (Kd.R_kept (Kd.R_types HR7.out BK2.out (by decide)) KS.out (fun _ hk => hk.2)) (fun _ _ => trivial)) GW.out, Kd.R_lower (Kd.R_mono (Kd.R_kept (Kd.R_types HR12.out BK2.out (by decide)) KS.out (fun _ hk => hk.2)) (fun _ _ => trivial)) GW.out, HBz.out⟩

set_option maxHeartbeats 8000000 in
/-- A drawn world, out of the bytes. -/
theorem spec_DrawWorldText.draws (A0 : Option Addr) (c0 : Nat) (bs : List Int) (w : World) (hr0 : Kd.C (Kd.int .u8) w A0 bs.length bs) (hc0 : bs.length ≤ c0) (hl : bs.length ≤ 1048576) :
    Calls Tryz.prog 5 #[.slice A0 bs.length c0] w fun e w' => Drawn w w.heap.size e w' := by
  have hu36 := Tryz.underlying36
  have HB := Aside0.mk (Below.refl w.heap.size w)
  have HR0 := Aside0.mk hr0
  have HC0 := Aside0.mk hc0
  have HL0 := Aside0.mk hl
  clear hr0 hc0 hl
  go_enter Tryz.func5, Tryz.ntmps5
  go_wp2_with (first
    | ((with_reducible refine gate_dst (N := 2) rfl ?_); refine box_event ?hg (N := 2) ?hd (cs := #[.int .i64 0, .int .i64 0, .int .i64 0, .slice none 0 0, .slice none 0 0, .int .i64 0, .int .i64 0, .slice none 0 0, .int .i64 0, .int .i64 0, .int .i64 0, .int .i64 0, .slice none 0 0, .int .i64 0, .int .i64 0, .int .i64 0]) (t := 36) ?hr ?_; (case hd => rfl); (case hg => rfl); (case hr => first | (go_simp; done) | (go_simp; rfl)); intro g2 hg wa hbox hb; have GE2 := Aside0.mk (show w.heap.size ≤ g2 by rw [hg]; exact below_size Pst.bel); have n1_ := Aside0.mk (below_step Pst.bel hb); clear HB; have HB := n1_; have BK2 := Aside0.mk hbox; clear n1_ hb hbox hg)
    | (go_at_call 15; refine (spec_DrawWorldOk.draws A0 c0 bs _ (Kd.C_below HR0.out Pst.bel) HC0.out HL0.out).mono ?_; rintro e wd ⟨s1, s2, s3, s4, s5, s6, s7, s8, s9, s10, s11, s12, s13, s14, s15, s16, v3, v4, v7, v12, rfl, hs, hr3, hr4, hr7, hr12, hb0⟩; have GW := Aside0.mk (below_size Pst.bel : w.heap.size ≤ _); have n1_ := Aside0.mk (below_step Pst.bel hb0); have n2_ := Aside0.mk (blk_below (Pst.qb BK2.out) hb0); clear HB BK2; have HB := n1_; have BK2 := n2_; clear n1_ n2_ hb0; obtain ⟨A3, c3, e3⟩ := Kd.R_slice hr3; obtain ⟨A4, c4, e4⟩ := Kd.R_slice hr4; obtain ⟨A7, c7, e7⟩ := Kd.R_slice hr7; obtain ⟨A12, c12, e12⟩ := Kd.R_slice hr12; subst e3 e4 e7 e12; have HR3 := Aside0.mk hr3; have HR4 := Aside0.mk hr4; have HR7 := Aside0.mk hr7; have HR12 := Aside0.mk hr12; have HS := Aside0.mk hs; clear hr3 hr4 hr7 hr12 hs)
    | ((with_reducible refine gate_ (.store 36 (.tmp 2) (.tmp 4)) rfl ?_); refine storeAll rfl 36 (.tmp 2) (.tmp 4) rfl g2 #[.int .i64 s1, .int .i64 s2, .int .i64 s3, .slice A3 s4.length c3, .slice A4 s5.length c4, .int .i64 s6, .int .i64 s7, .slice A7 s8.length c7, .int .i64 s9, .int .i64 s10, .int .i64 s11, .int .i64 s12, .slice A12 s13.length c12, .int .i64 s14, .int .i64 s15, .int .i64 s16] rfl rfl 36 #[.int .i64 0, .int .i64 0, .int .i64 0, .slice none 0 0, .slice none 0 0, .int .i64 0, .int .i64 0, .slice none 0 0, .int .i64 0, .int .i64 0, .int .i64 0, .int .i64 0, .slice none 0 0, .int .i64 0, .int .i64 0, .int .i64 0] ?hb (by kernel_rfl) rfl (by simp [oneInt, oneSlice]) ?_; (case hb => exact Pst.qb BK2.out); intro wz hbs hgs; have BKz := Aside0.mk hbs; have KS := Aside0.mk (show Kept wd wz (fun k => k = g2) from ⟨hgs.size, fun i hi hn => hgs.block i hi (fun he => hn (Option.some.inj he))⟩); have HBz := Aside0.mk (pw_below_grown HB.out (some g2) HB.out.size hgs (fun k_ hk_ => by cases hk_; exact GE2.out)); clear hbs hgs))
  refine bodyPost_ret (results_cell_row rfl _ _ g2 36 #[.int .i64 s1, .int .i64 s2, .int .i64 s3, .slice A3 s4.length c3, .slice A4 s5.length c4, .int .i64 s6, .int .i64 s7, .slice A7 s8.length c7, .int .i64 s9, .int .i64 s10, .int .i64 s11, .int .i64 s12, .slice A12 s13.length c12, .int .i64 s14, .int .i64 s15, .int .i64 s16] (0, 0) _ rfl BKz.out Tryz.underlying36 rfl (by kernel_rfl)) rfl ?_
  exact ⟨s1, s2, s3, s4, s5, s6, s7, s8, s9, s10, s11, s12, s13, s14, s15, s16, _, _, _, _, rfl, HS.out, Kd.R_lower (Kd.R_mono (Kd.R_kept (Kd.R_types HR3.out BK2.out (by decide)) KS.out (fun _ hk => hk.2)) (fun _ _ => trivial)) GW.out, Kd.R_lower (Kd.R_mono (Kd.R_kept (Kd.R_types HR4.out BK2.out (by decide)) KS.out (fun _ hk => hk.2)) (fun _ _ => trivial)) GW.out, Kd.R_lower (Kd.R_mono (Kd.R_kept (Kd.R_types HR7.out BK2.out (by decide)) KS.out (fun _ hk => hk.2)) (fun _ _ => trivial)) GW.out, Kd.R_lower (Kd.R_mono (Kd.R_kept (Kd.R_types HR12.out BK2.out (by decide)) KS.out (fun _ hk => hk.2)) (fun _ _ => trivial)) GW.out, HBz.out⟩
end Go.Proofs.YtidkiabehmdofaaGreatDoor.PA
