/- What a bound and a name are: the reference's and the program's tests answer one thing. No condition but that texts fit into memory. -/
import Derived.Test.YtidkiabehmdofaaGreatDoorAid
import Derived.Test.YtidkiabehmdofaaGreatDoorPAx4
import Derived.Test.YtidkiabehmdofaaGreatDoorPAx5
namespace Go.Proofs.YtidkiabehmdofaaGreatDoor.PA
open Go.RowKit Go.Proofs.YtidkiabehmdofaaGreatDoorW.PrintWords Go.Proofs.YtidkiabehmdofaaGreatDoorW.PrintLast Go.Proofs.YtidkiabehmdofaaGreatDoorW.PrintMore Go.Proofs.YtidkiabehmdofaaGreatDoor.Aid
set_option linter.unusedVariables false
set_option linter.unusedSimpArgs false

theorem specIn (a b c : Int) : spec_l01In.f a b c = some (decide (b ≤ a ∧ a ≤ c)) := by
  unfold spec_l01In.f
  by_cases h : b ≤ a <;> simp [h]
theorem implIn (a b c : Int) : impl_in.f a b c = some (decide (b ≤ a ∧ a ≤ c)) := by
  unfold impl_in.f
  by_cases h : b ≤ a <;> simp [h]

/-- A sign of a name. -/
def signOk (b : Int) : Bool := decide ((97 ≤ b ∧ b ≤ 122) ∨ (48 ≤ b ∧ b ≤ 57))
def nameOk (s : ByteArray) : Bool := decide (1 ≤ (s.size : Int) ∧ (s.size : Int) ≤ 12) && (List.range s.size).all fun i => signOk (bt s (i : Int))

theorem specName_l0 (s : ByteArray) (hs : s.size ≤ 9223372036854775807) : Ev (fun k => spec_NameOk.l0 k s 0) ((List.range s.size).all fun i => signOk (bt s (i : Int))) := by
  refine ev_all (fun k i => spec_NameOk.l0 k s i) _ ?_ ?_ ?_
  · exact spec_NameOk.l0.st (ev_neg (by omega) ev_now)
  · intro i hi hg r H
    refine spec_NameOk.l0.st (ev_pos (by omega) (ev_pos (by omega) ?_))
    simp only [signOk, decide_eq_true_eq] at hg
    rw [w64 (by omega) (by omega)]
    repeat' (first | exact H | (refine ev_ite (fun _ => ?_) (fun _ => ?_)) | (exfalso; omega))
  · intro i hi hg
    refine spec_NameOk.l0.st (ev_pos (by omega) (ev_pos (by omega) ?_))
    simp only [signOk, decide_eq_false_iff_not] at hg
    repeat' (first | exact ev_now | (exfalso; omega) | (refine ev_ite (fun _ => ?_) (fun _ => ?_)))

theorem specName (s : ByteArray) (hs : s.size ≤ 9223372036854775807) : Ev (fun k => spec_NameOk.f k s) (nameOk s) := by
  unfold spec_NameOk.f nameOk
  refine ev_call (specIn _ _ _) (ev_test (fun h => ?_) (fun h => ?_))
  · rw [h, Bool.true_and]
    exact specName_l0 s hs
  · rw [h, Bool.false_and]
    exact ev_now

theorem implName (s : ByteArray) (hs : s.size ≤ 9223372036854775807) : Ev (fun k => impl_NameOk.f k s) (nameOk s) := by
  unfold impl_NameOk.f nameOk
  have key : Ev (fun k => impl_NameOk.l0 k s (s.size : Int) 0) (((List.range s.size).all fun i => signOk (bt s (i : Int))) && decide (1 ≤ (s.size : Int) ∧ (s.size : Int) ≤ 12)) := by
    by_cases hd : 1 ≤ (s.size : Int) ∧ (s.size : Int) ≤ 12
    · rw [decide_eq_true hd, Bool.and_true]
      refine ev_all (fun k i => impl_NameOk.l0 k s (s.size : Int) i) _ ?_ ?_ ?_
      · refine impl_NameOk.l0.st (ev_neg (by omega) (ev_call (implIn _ _ _) ?_))
        rw [decide_eq_true hd]
        exact ev_now
      · intro i hi hg r H
        refine impl_NameOk.l0.st (ev_pos (by omega) (ev_pos (by omega) (ev_pos (by omega) ?_)))
        simp only [signOk, decide_eq_true_eq] at hg
        rw [w64 (by omega) (by omega)]
        repeat' (first | exact H | (refine ev_ite (fun _ => ?_) (fun _ => ?_)) | (exfalso; omega))
      · intro i hi hg
        refine impl_NameOk.l0.st (ev_pos (by omega) (ev_pos (by omega) (ev_pos (by omega) ?_)))
        simp only [signOk, decide_eq_false_iff_not] at hg
        repeat' (first | exact ev_now | (exfalso; omega) | (refine ev_ite (fun _ => ?_) (fun _ => ?_)))
    · rw [decide_eq_false hd, Bool.and_false]
      have := ev_up (n := s.size) (fun i => Ev (fun k => impl_NameOk.l0 k s (s.size : Int) (i : Int)) false)
        (by
          refine impl_NameOk.l0.st (ev_neg (by omega) (ev_call (implIn _ _ _) ?_))
          rw [decide_eq_false hd]
          exact ev_now)
        (by
          intro i hi H
          refine impl_NameOk.l0.st (ev_pos (by omega) (ev_pos (by omega) (ev_pos (by omega) ?_)))
          rw [w64 (by omega) (by omega)]
          repeat' (first | exact H | exact ev_now | (refine ev_ite (fun _ => ?_) (fun _ => ?_)))) 0 (Nat.zero_le _)
      exact this
  rw [Bool.and_comm]
  exact key
end Go.Proofs.YtidkiabehmdofaaGreatDoor.PA
