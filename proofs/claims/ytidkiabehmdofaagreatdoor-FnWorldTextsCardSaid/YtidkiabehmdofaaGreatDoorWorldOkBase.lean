/- Worlds: what the reference's WorldOk, LoadAt and IdealAt and the program's answer. No condition but that texts fit into memory and lists are of a length that a statement lets pass. -/
import Derived.Test.YtidkiabehmdofaaGreatDoorSetupBase
import Derived.Test.YtidkiabehmdofaaGreatDoorPAx0
import Derived.Test.YtidkiabehmdofaaGreatDoorPAx4
import Derived.Test.YtidkiabehmdofaaGreatDoorPAx6
namespace Go.Proofs.YtidkiabehmdofaaGreatDoor.PA
open Go.RowKit Go.Proofs.YtidkiabehmdofaaGreatDoorW.PrintWords Go.Proofs.YtidkiabehmdofaaGreatDoorW.PrintLast Go.Proofs.YtidkiabehmdofaaGreatDoorW.PrintMore Go.Proofs.YtidkiabehmdofaaGreatDoor.Aid
set_option linter.unusedVariables false

def loadsOk (L : List Int) : Bool := (List.range L.length).all fun i => inb (rd L (i : Int)) 0 100000
def cpu (gs : List S48) : Bool := (rd_T48 gs 0).f0.toList == ([99, 112, 117] : List UInt8)
def worldTail (gs : List S48) (L : List Int) (w s n : Int) : Bool := decide ((gs.length : Int) = 1) && (cpu gs && (inb (L.length : Int) 1 20 && (inb w 0 50 && (inb s 1 50 && inb n 1 12))))
def worldOk (a b c : Int) (gs : List S48) (p1 : List S101) (u v : Int) (p2 : List S101) (d e m x : Int) (L : List Int) (w s n : Int) : Bool :=
  loadsOk L && (setupOk a b c gs p1 u v p2 d e m x && worldTail gs L w s n)

section
variable (a b c : Int) (gs : List S48) (p1 : List S101) (u v : Int) (p2 : List S101) (d e m x : Int) (L : List Int) (w s n : Int)
variable (hf : FitsG gs) (hl : gs.length ≤ 1048577) (h1 : p1.length ≤ 1048577) (h2 : p2.length ≤ 1048577) (hL : L.length ≤ 1048577)

include hL in
theorem specLoads : Ev (fun k => spec_WorldOk.l0 k 0 a b c gs p1 u v p2 d e m x L w s n) (loadsOk L) := by
  refine ev_all (fun k i => spec_WorldOk.l0 k i a b c gs p1 u v p2 d e m x L w s n) _ (spec_WorldOk.l0.st (ev_neg (by omega) ev_now)) ?_ ?_
  · intro i hi hg r H
    refine spec_WorldOk.l0.st (ev_pos (by omega) (ev_pos (by omega) (ev_call (sIn _ _ _) (ev_pos hg ?_))))
    rw [w64 (by omega) (by omega)]
    exact H
  · intro i hi hg
    exact spec_WorldOk.l0.st (ev_pos (by omega) (ev_pos (by omega) (ev_call (sIn _ _ _) (ev_neg (by rw [hg]; simp) ev_now))))

include hf hl h1 h2 hL in
theorem specWorld : Ev (fun k => spec_WorldOk.f k a b c gs p1 u v p2 d e m x L w s n) (worldOk a b c gs p1 u v p2 d e m x L w s n) := by
  have hp := specLoads a b c gs p1 u v p2 d e m x L w s n hL
  have j : ∀ y : Bool, Ev (fun k => spec_WorldOk.j0 k y a b c gs p1 u v p2 d e m x L w s n) (loadsOk L && !y) := by
    intro y
    cases y with
    | true => rw [Bool.not_true, Bool.and_false]; exact spec_WorldOk.j0.st (ev_pos rfl ev_now)
    | false => rw [Bool.not_false, Bool.and_true]; exact spec_WorldOk.j0.st (ev_neg (by simp) hp)
  unfold spec_WorldOk.f worldOk worldTail cpu
  refine ev_bind (specSetup a b c gs p1 u v p2 d e m x hf hl h1 h2) (ev_test (fun h => ?_) (fun h => ?_))
  · rw [h, Bool.true_and]
    refine ev_ite (fun h => ?_) (fun h => ?_)
    · rw [decide_eq_true h, Bool.true_and]
      refine ev_pos (by omega) (ev_ite (fun h => ?_) (fun h => ?_))
      · rw [beq_iff_eq.2 h, Bool.true_and]
        refine ev_call (sIn _ _ _) (ev_test (fun h => ?_) (fun h => ?_))
        · rw [h, Bool.true_and]
          refine ev_call (sIn _ _ _) (ev_test (fun h => ?_) (fun h => ?_))
          · rw [h, Bool.true_and]
            refine ev_call (sIn _ _ _) (ev_test (fun h => ?_) (fun h => ?_))
            · rw [h, Bool.true_and]
              refine ev_call (sIn _ _ _) ?_
              have := j (!inb n 1 12)
              rw [Bool.not_not] at this
              exact this
            · rw [h, Bool.false_and]
              exact j true
          · rw [h, Bool.false_and]
            exact j true
        · rw [h, Bool.false_and]
          exact j true
      · rw [beq_eq_false_iff_ne.2 h, Bool.false_and]
        exact j true
    · rw [decide_eq_false h, Bool.false_and]
      exact j true
  · rw [h, Bool.false_and]
    exact j true

theorem implTail (y : Bool) : Ev (fun k => impl_WorldOk.j1 k y a b c gs p1 u v p2 d e m x L w s n) (y && (inb (L.length : Int) 1 20 && (inb w 0 50 && (inb s 1 50 && inb n 1 12)))) := by
  refine impl_WorldOk.j1.st (ev_test (fun h => ?_) (fun h => ?_))
  · rw [h, Bool.true_and]
    refine ev_call (iIn _ _ _) (ev_test (fun h => ?_) (fun h => ?_))
    · rw [h, Bool.true_and]
      refine ev_call (iIn _ _ _) (ev_test (fun h => ?_) (fun h => ?_))
      · rw [h, Bool.true_and]
        refine ev_call (iIn _ _ _) (ev_test (fun h => ?_) (fun h => ?_))
        · rw [h, Bool.true_and]
          exact ev_call (iIn _ _ _) ev_now
        · rw [h, Bool.false_and]
          exact ev_now
      · rw [h, Bool.false_and]
        exact ev_now
    · rw [h, Bool.false_and]
      exact ev_now
  · rw [h, Bool.false_and]
    exact ev_now

include hf hl h1 h2 hL in
theorem implWorld : Ev (fun k => impl_WorldOk.f k a b c gs p1 u v p2 d e m x L w s n) (worldOk a b c gs p1 u v p2 d e m x L w s n) := by
  unfold impl_WorldOk.f worldOk worldTail cpu loadsOk
  have j := implTail a b c gs p1 u v p2 d e m x L w s n
  refine ev_allThen (fun k i => impl_WorldOk.l0 k L (L.length : Int) i a b c gs p1 u v p2 d e m x L w s n) _ _ ?_ ?_ ?_
  · refine impl_WorldOk.l0.st (ev_neg (by omega) (ev_bind (implSetup a b c gs p1 u v p2 d e m x hf hl h1 h2) (ev_test (fun h => ?_) (fun h => ?_))))
    · rw [h, Bool.true_and]
      refine ev_ite (fun h => ?_) (fun h => ?_)
      · rw [decide_eq_true h, Bool.true_and]
        exact ev_pos (by omega) (j _)
      · rw [decide_eq_false h, Bool.false_and]
        exact j false
    · rw [h, Bool.false_and]
      exact j false
  · intro i hi hg r H
    refine impl_WorldOk.l0.st (ev_pos (by omega) (ev_pos (by omega) (ev_pos (by omega) (ev_call (iIn _ _ _) (ev_pos hg ?_)))))
    rw [w64 (by omega) (by omega)]
    exact H
  · intro i hi hg
    exact impl_WorldOk.l0.st (ev_pos (by omega) (ev_pos (by omega) (ev_pos (by omega) (ev_call (iIn _ _ _) (ev_neg (by rw [hg]; simp) ev_now)))))
end

end Go.Proofs.YtidkiabehmdofaaGreatDoor.PA
