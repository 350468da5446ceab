/- Setups and worlds: what the reference's tests and the program's answer, in one form. No condition but that texts fit into memory and lists are of a length that a statement lets pass. -/
import Derived.Test.YtidkiabehmdofaaGreatDoorNamesBase
import Derived.Test.YtidkiabehmdofaaGreatDoorPAx0
import Derived.Test.YtidkiabehmdofaaGreatDoorPAx4
import Derived.Test.YtidkiabehmdofaaGreatDoorPAx5
namespace Go.Proofs.YtidkiabehmdofaaGreatDoor.PA
open Go.RowKit Go.Proofs.YtidkiabehmdofaaGreatDoorW.PrintWords Go.Proofs.YtidkiabehmdofaaGreatDoorW.PrintLast Go.Proofs.YtidkiabehmdofaaGreatDoorW.PrintMore Go.Proofs.YtidkiabehmdofaaGreatDoor.Aid
set_option linter.unusedVariables false

/-- A loop that asks one thing of each place, and one more at the end. -/
theorem ev_allThen {n : Nat} (g : Nat → Int → Option Bool) (good : Nat → Bool) (s : Bool) (hstop : Ev (fun k => g k (n : Int)) s)
    (hgo : ∀ i, i < n → good i = true → ∀ r, Ev (fun k => g k ((i + 1 : Nat) : Int)) r → Ev (fun k => g k (i : Int)) r)
    (hbad : ∀ i, i < n → good i = false → Ev (fun k => g k (i : Int)) false) : Ev (fun k => g k 0) ((List.range n).all good && s) := by
  have key : ∀ d i, i + d = n → Ev (fun k => g k (i : Int)) ((List.range' i d).all good && s) := by
    intro d
    induction d with
    | zero => intro i hi; rw [show i = n by omega]; exact hstop
    | succ d ih =>
      intro i hi
      rw [List.range'_succ, List.all_cons]
      cases hb : good i with
      | true => rw [Bool.true_and]; exact hgo i (by omega) hb _ (ih (i + 1) (by omega))
      | false => rw [Bool.false_and, Bool.false_and]; exact hbad i (by omega) hb
  have := key n 0 (by omega)
  rw [List.range_eq_range']
  exact this

def inb (a b c : Int) : Bool := decide (b ≤ a ∧ a ≤ c)
theorem sIn (a b c : Int) : spec_l01In.f a b c = some (inb a b c) := specIn a b c
theorem iIn (a b c : Int) : impl_in.f a b c = some (inb a b c) := implIn a b c
theorem inb_true {a b c : Int} (h : inb a b c = true) : b ≤ a ∧ a ≤ c := of_decide_eq_true h

def ruleOk (a b c : Int) : Bool := inb a 0 1000 && (inb b 0 1000 && inb c 0 1000)
theorem specRule (a b c : Int) : spec_RulesOk.f a b c = some (ruleOk a b c) := by
  unfold spec_RulesOk.f ruleOk
  rw [sIn, sIn, sIn]
  cases inb a 0 1000 <;> cases inb b 0 1000 <;> rfl
theorem implRule (a b c : Int) : impl_RulesOk.f a b c = some (ruleOk a b c) := by
  unfold impl_RulesOk.f ruleOk
  rw [iIn, iIn, iIn]
  cases inb a 0 1000 <;> cases inb b 0 1000 <;> rfl

/-! ### A side -/
def polOk (x : S101) : Bool := inb x.f0 0 1 && (inb x.f1 1 1000 && inb x.f2 1 1000)
def polsOk (l : List S101) : Bool := (List.range l.length).all fun i => polOk (rd_T101 l (i : Int))
def sideOk (l : List S101) (a b : Int) : Bool := polsOk l && (decide ((l.length : Int) ≤ 3) && (inb a 0 2 && inb b 0 1000))

theorem polOk_parts {x : S101} (h : polOk x = true) : inb x.f0 0 1 = true ∧ inb x.f1 1 1000 = true ∧ inb x.f2 1 1000 = true := by
  unfold polOk at h
  simpa only [Bool.and_eq_true] using h
theorem polOk_not {x : S101} (h : polOk x = false) (h0 : inb x.f0 0 1 = true) (h1 : inb x.f1 1 1000 = true) : inb x.f2 1 1000 = false := by
  unfold polOk at h
  rw [h0, h1, Bool.true_and, Bool.true_and] at h
  exact h

theorem specPols (l : List S101) (a b : Int) (hl : l.length ≤ 1048577) : Ev (fun k => spec_SideOk.l0 k 0 l a b) (polsOk l) := by
  refine ev_all (fun k i => spec_SideOk.l0 k i l a b) _ (spec_SideOk.l0.st (ev_neg (by omega) ev_now)) ?_ ?_
  · intro i hi hg r H
    obtain ⟨h0, h1, h2⟩ := polOk_parts hg
    refine spec_SideOk.l0.st (ev_pos (by omega) (ev_pos (by omega) (ev_call (sIn _ _ _) (ev_pos h0 (ev_call (sIn _ _ _) (ev_pos h1 (ev_call (sIn _ _ _) (ev_pos h2 ?_))))))))
    rw [w64 (by omega) (by omega)]
    exact H
  · intro i hi hg
    exact spec_SideOk.l0.st (ev_pos (by omega) (ev_pos (by omega) (ev_call (sIn _ _ _) (ev_test (fun h0 => ev_call (sIn _ _ _) (ev_test (fun h1 => ev_call (sIn _ _ _) (ev_neg (by rw [polOk_not hg h0 h1]; simp) ev_now)) (fun _ => ev_now))) (fun _ => ev_now)))))

theorem specSide (l : List S101) (a b : Int) (hl : l.length ≤ 1048577) : Ev (fun k => spec_SideOk.f k l a b) (sideOk l a b) := by
  have hp := specPols l a b hl
  have j : ∀ x : Bool, Ev (fun k => spec_SideOk.j0 k x l a b) (polsOk l && !x) := by
    intro x
    cases x with
    | true => rw [Bool.not_true, Bool.and_false]; exact spec_SideOk.j0.st (ev_pos rfl ev_now)
    | false => rw [Bool.not_false, Bool.and_true]; exact spec_SideOk.j0.st (ev_neg (by simp) hp)
  unfold spec_SideOk.f sideOk
  refine ev_ite (fun h => ?_) (fun h => ?_)
  · rw [decide_eq_false (by omega), Bool.false_and]
    exact j true
  · rw [decide_eq_true (by omega), Bool.true_and]
    refine ev_call (sIn _ _ _) (ev_test (fun h0 => ev_call (sIn _ _ _) ?_) (fun h0 => ?_))
    · rw [h0, Bool.true_and]
      have := j (!inb b 0 1000)
      rw [Bool.not_not] at this
      exact this
    · rw [h0, Bool.false_and]
      exact j true

theorem implSide (l : List S101) (a b : Int) (hl : l.length ≤ 1048577) : Ev (fun k => impl_SideOk.f k l a b) (sideOk l a b) := by
  unfold impl_SideOk.f sideOk polsOk
  refine ev_allThen (fun k i => impl_SideOk.l0 k l (l.length : Int) i l a b) _ _ ?_ ?_ ?_
  · refine impl_SideOk.l0.st (ev_neg (by omega) (ev_ite (fun h => ?_) (fun h => ?_)))
    · rw [decide_eq_true h, Bool.true_and]
      refine ev_call (iIn _ _ _) (ev_test (fun h0 => ?_) (fun h0 => ?_))
      · rw [h0, Bool.true_and]
        exact ev_call (iIn _ _ _) ev_now
      · rw [h0, Bool.false_and]
        exact ev_now
    · rw [decide_eq_false h, Bool.false_and]
      exact ev_now
  · intro i hi hg r H
    obtain ⟨h0, h1, h2⟩ := polOk_parts hg
    refine impl_SideOk.l0.st (ev_pos (by omega) (ev_pos (by omega) (ev_pos (by omega) (ev_call (iIn _ _ _) (ev_pos h0 (ev_call (iIn _ _ _) (ev_pos h1 (ev_call (iIn _ _ _) (ev_pos h2 ?_)))))))))
    rw [w64 (by omega) (by omega)]
    exact H
  · intro i hi hg
    exact impl_SideOk.l0.st (ev_pos (by omega) (ev_pos (by omega) (ev_pos (by omega) (ev_call (iIn _ _ _) (ev_test (fun h0 => ev_call (iIn _ _ _) (ev_test (fun h1 => ev_call (iIn _ _ _) (ev_neg (by rw [polOk_not hg h0 h1]; simp) ev_now)) (fun _ => ev_now))) (fun _ => ev_now))))))

def behaveOk (l : List S101) (a b : Int) (m : List S101) (c d e f : Int) : Bool := sideOk l a b && (sideOk m c d && decide (0 ≤ e ∧ e ≤ f ∧ f ≤ 1000))
theorem specBehave (l : List S101) (a b : Int) (m : List S101) (c d e f : Int) (hl : l.length ≤ 1048577) (hm : m.length ≤ 1048577) : Ev (fun k => spec_BehaveOk.f k l a b m c d e f) (behaveOk l a b m c d e f) := by
  unfold spec_BehaveOk.f behaveOk
  refine ev_bind (specSide l a b hl) (ev_test (fun h => ?_) (fun h => ?_))
  · rw [h, Bool.true_and]
    refine ev_bind (specSide m c d hm) (ev_test (fun h => ?_) (fun h => ?_))
    · rw [h, Bool.true_and]
      refine ev_call (sIn _ _ _) (ev_test (fun h => ?_) (fun h => ?_))
      · refine ev_call (sIn _ _ _) (ev_val ?_)
        have := inb_true h
        unfold inb
        by_cases hc : 0 ≤ e ∧ e ≤ f
        · rw [decide_eq_true hc, decide_eq_true (show 0 ≤ e ∧ e ≤ f ∧ f ≤ 1000 by omega)]
        · rw [decide_eq_false hc, decide_eq_false (show ¬ (0 ≤ e ∧ e ≤ f ∧ f ≤ 1000) by omega)]
      · have := of_decide_eq_false h
        rw [decide_eq_false (show ¬ (0 ≤ e ∧ e ≤ f ∧ f ≤ 1000) by omega)]
        exact ev_now
    · rw [h, Bool.false_and]
      exact ev_now
  · rw [h, Bool.false_and]
    exact ev_now
theorem implBehave (l : List S101) (a b : Int) (m : List S101) (c d e f : Int) (hl : l.length ≤ 1048577) (hm : m.length ≤ 1048577) : Ev (fun k => impl_BehaveOk.f k l a b m c d e f) (behaveOk l a b m c d e f) := by
  unfold impl_BehaveOk.f behaveOk
  refine ev_bind (implSide l a b hl) (ev_test (fun h => ?_) (fun h => ?_))
  · rw [h, Bool.true_and]
    refine ev_bind (implSide m c d hm) (ev_test (fun h => ?_) (fun h => ?_))
    · rw [h, Bool.true_and]
      refine ev_ite (fun h1 => ev_ite (fun h2 => ev_val ?_) (fun h2 => ?_)) (fun h1 => ?_)
      · by_cases hc : f ≤ 1000
        · rw [decide_eq_true hc, decide_eq_true (show 0 ≤ e ∧ e ≤ f ∧ f ≤ 1000 by omega)]
        · rw [decide_eq_false hc, decide_eq_false (show ¬ (0 ≤ e ∧ e ≤ f ∧ f ≤ 1000) by omega)]
      · rw [decide_eq_false (show ¬ (0 ≤ e ∧ e ≤ f ∧ f ≤ 1000) by omega)]
        exact ev_now
      · rw [decide_eq_false (show ¬ (0 ≤ e ∧ e ≤ f ∧ f ≤ 1000) by omega)]
        exact ev_now
    · rw [h, Bool.false_and]
      exact ev_now
  · rw [h, Bool.false_and]
    exact ev_now

/-! ### Goals -/
def goalOk (s : ByteArray) (a b : Int) : Bool := nameOk s && (inb a 1 1000000 && inb b 0 1000)
theorem specGoal (s : ByteArray) (a b : Int) (hs : s.size ≤ 9223372036854775807) : Ev (fun k => spec_GoalOk.f k s a b) (goalOk s a b) := by
  unfold spec_GoalOk.f goalOk
  refine ev_bind (specName s hs) (ev_test (fun h => ?_) (fun h => ?_))
  · rw [h, Bool.true_and]
    refine ev_call (sIn _ _ _) (ev_test (fun h => ?_) (fun h => ?_))
    · rw [h, Bool.true_and]
      exact ev_call (sIn _ _ _) ev_now
    · rw [h, Bool.false_and]
      exact ev_now
  · rw [h, Bool.false_and]
    exact ev_now
theorem implGoal (s : ByteArray) (a b : Int) (hs : s.size ≤ 9223372036854775807) : Ev (fun k => impl_GoalOk.f k s a b) (goalOk s a b) := by
  unfold impl_GoalOk.f goalOk
  refine ev_bind (implName s hs) (ev_test (fun h => ?_) (fun h => ?_))
  · rw [h, Bool.true_and]
    refine ev_call (iIn _ _ _) (ev_test (fun h => ?_) (fun h => ?_))
    · rw [h, Bool.true_and]
      exact ev_call (iIn _ _ _) ev_now
    · rw [h, Bool.false_and]
      exact ev_now
  · rw [h, Bool.false_and]
    exact ev_now

def FitsG (l : List S48) : Prop := ∀ x ∈ l, x.f0.size ≤ 9223372036854775807
theorem rdG_mem (l : List S48) (i : Nat) (h : i < l.length) : rd_T48 l (i : Int) = l[i] := by
  unfold rd_T48
  rw [Int.toNat_natCast, List.getD_eq_getElem?_getD, List.getElem?_eq_getElem h]
  rfl
theorem FitsG.at {l : List S48} (hf : FitsG l) (i : Nat) (h : i < l.length) : (rd_T48 l (i : Int)).f0.size ≤ 9223372036854775807 := by
  rw [rdG_mem l i h]
  exact hf _ (List.getElem_mem h)
def sameMetric (l : List S48) (i j : Nat) : Bool := decide ((rd_T48 l (i : Int)).f0.toList = (rd_T48 l (j : Int)).f0.toList)
def goalAt (l : List S48) (i : Nat) : Bool := goalOk (rd_T48 l (i : Int)).f0 (rd_T48 l (i : Int)).f1 (rd_T48 l (i : Int)).f2 && (List.range i).all fun j => !sameMetric l j i
def goalsOk (l : List S48) : Bool := (List.range l.length).all (goalAt l)

theorem goalPlace_ge (nm : ByteArray) : ∀ (xs : List S48) (z : Int), 0 ≤ z → decide (0 ≤ goalPlace nm xs z) = xs.any fun x => decide (x.f0.toList = nm.toList)
  | [], z, h => by simp [goalPlace]
  | x :: t, z, h => by
    have hg : goalPlace nm (x :: t) z = if x.f0.toList = nm.toList then z else goalPlace nm t (z + 1) := rfl
    rw [List.any_cons]
    by_cases hx : x.f0.toList = nm.toList
    · have h1 : goalPlace nm (x :: t) z = z := by rw [hg, if_pos hx]
      rw [h1, decide_eq_true h, decide_eq_true hx, Bool.true_or]
    · have h1 : goalPlace nm (x :: t) z = goalPlace nm t (z + 1) := by rw [hg, if_neg hx]
      rw [h1, decide_eq_false hx, Bool.false_or]
      exact goalPlace_ge nm t (z + 1) (by omega)
theorem any_take (l : List S48) (p : S48 → Bool) : ∀ i, i ≤ l.length → (l.take i).any p = (List.range i).any fun j => p (rd_T48 l (j : Int))
  | 0, _ => by simp
  | i + 1, h => by
    rw [List.take_add_one, List.any_append, List.range_succ, List.any_append, any_take l p i (by omega), List.getElem?_eq_getElem (by omega)]
    simp only [Option.toList_some, List.any_cons, List.any_nil]
    rw [rdG_mem l i (by omega)]
theorem goalThere (l : List S48) (i : Nat) (hi : i < l.length) (a b : Int) : impl_goalThere.f (l.take ((i : Int)).toNat) (rd_T48 l (i : Int)).f0 a b = some (!((List.range i).all fun j => !sameMetric l j i)) := by
  unfold impl_goalThere.f
  rw [Int.toNat_natCast, goalPlace_ge _ _ _ (Int.le_refl _), any_take l _ i (by omega), List.not_all_eq_any_not]
  simp only [Bool.not_not, sameMetric]

def setupOk (a b c : Int) (gs : List S48) (p1 : List S101) (u v : Int) (p2 : List S101) (d e m x : Int) : Bool :=
  goalsOk gs && (ruleOk a b c && (behaveOk p1 u v p2 d e m x && inb (gs.length : Int) 1 3))

theorem spec_goal_l1 (a b c : Int) (gs : List S48) (p1 : List S101) (u v : Int) (p2 : List S101) (d e m x : Int) (hl : gs.length ≤ 1048577) (i : Nat) (hi : i < gs.length) (r : Bool)
    (hn : Ev (fun k => spec_SetupOk.l0 k (((i + 1 : Nat)) : Int) a b c gs p1 u v p2 d e m x) r) :
    Ev (fun k => spec_SetupOk.l1 k (i : Int) 0 a b c gs p1 u v p2 d e m x) (((List.range i).all fun j => !sameMetric gs j i) && r) := by
  have key : ∀ q j, j + q = i → Ev (fun k => spec_SetupOk.l1 k (i : Int) (j : Int) a b c gs p1 u v p2 d e m x) (((List.range' j q).all fun j => !sameMetric gs j i) && r) := by
    intro q
    induction q with
    | zero =>
      intro j hj
      refine spec_SetupOk.l1.st (ev_neg (by omega) ?_)
      rw [w64 (by omega) (by omega)]
      exact hn
    | succ q ih =>
      intro j hj
      rw [List.range'_succ, List.all_cons]
      refine spec_SetupOk.l1.st (ev_pos (by omega) (ev_pos (by omega) (ev_pos (by omega) (ev_pos (by omega) (ev_pos (by omega) ?_)))))
      by_cases hs : (rd_T48 gs (j : Int)).f0.toList = (rd_T48 gs (i : Int)).f0.toList
      · have : sameMetric gs j i = true := decide_eq_true hs
        rw [this]
        exact ev_pos hs ev_now
      · have : sameMetric gs j i = false := decide_eq_false hs
        rw [this]
        refine ev_neg hs ?_
        rw [w64 (by omega) (by omega)]
        exact ih (j + 1) (by omega)
  rw [List.range_eq_range']
  exact key i 0 (by omega)

theorem specGoals (a b c : Int) (gs : List S48) (p1 : List S101) (u v : Int) (p2 : List S101) (d e m x : Int) (hf : FitsG gs) (hl : gs.length ≤ 1048577) :
    Ev (fun k => spec_SetupOk.l0 k 0 a b c gs p1 u v p2 d e m x) (goalsOk gs) := by
  have key : ∀ q i, i + q = gs.length → Ev (fun k => spec_SetupOk.l0 k (i : Int) a b c gs p1 u v p2 d e m x) ((List.range' i q).all (goalAt gs)) := by
    intro q
    induction q with
    | zero => intro i hi; exact spec_SetupOk.l0.st (ev_neg (by omega) ev_now)
    | succ q ih =>
      intro i hi
      rw [List.range'_succ, List.all_cons]
      refine spec_SetupOk.l0.st (ev_pos (by omega) (ev_pos (by omega) (ev_bind (specGoal _ _ _ (hf.at i (by omega))) (ev_test (fun ho => ?_) (fun ho => ?_)))))
      · rw [show goalAt gs i = ((List.range i).all fun j => !sameMetric gs j i) by unfold goalAt; rw [ho, Bool.true_and]]
        exact spec_goal_l1 a b c gs p1 u v p2 d e m x hl i (by omega) _ (ih (i + 1) (by omega))
      · rw [show goalAt gs i = false by unfold goalAt; rw [ho, Bool.false_and], Bool.false_and]
        exact ev_now
  unfold goalsOk
  rw [List.range_eq_range']
  exact key gs.length 0 (by omega)

theorem specSetup (a b c : Int) (gs : List S48) (p1 : List S101) (u v : Int) (p2 : List S101) (d e m x : Int) (hf : FitsG gs) (hl : gs.length ≤ 1048577) (h1 : p1.length ≤ 1048577) (h2 : p2.length ≤ 1048577) :
    Ev (fun k => spec_SetupOk.f k a b c gs p1 u v p2 d e m x) (setupOk a b c gs p1 u v p2 d e m x) := by
  have hp := specGoals a b c gs p1 u v p2 d e m x hf hl
  have j : ∀ y : Bool, Ev (fun k => spec_SetupOk.j0 k y a b c gs p1 u v p2 d e m x) (goalsOk gs && !y) := by
    intro y
    cases y with
    | true => rw [Bool.not_true, Bool.and_false]; exact spec_SetupOk.j0.st (ev_pos rfl ev_now)
    | false => rw [Bool.not_false, Bool.and_true]; exact spec_SetupOk.j0.st (ev_neg (by simp) hp)
  unfold spec_SetupOk.f setupOk
  refine ev_call (specRule _ _ _) (ev_test (fun h => ?_) (fun h => ?_))
  · rw [h, Bool.true_and]
    refine ev_bind (specBehave p1 u v p2 d e m x h1 h2) (ev_test (fun h => ?_) (fun h => ?_))
    · rw [h, Bool.true_and]
      refine ev_call (sIn _ _ _) ?_
      have := j (!inb (gs.length : Int) 1 3)
      rw [Bool.not_not] at this
      exact this
    · rw [h, Bool.false_and]
      exact j true
  · rw [h, Bool.false_and]
    exact j true

theorem implSetup (a b c : Int) (gs : List S48) (p1 : List S101) (u v : Int) (p2 : List S101) (d e m x : Int) (hf : FitsG gs) (hl : gs.length ≤ 1048577) (h1 : p1.length ≤ 1048577) (h2 : p2.length ≤ 1048577) :
    Ev (fun k => impl_SetupOk.f k a b c gs p1 u v p2 d e m x) (setupOk a b c gs p1 u v p2 d e m x) := by
  unfold impl_SetupOk.f setupOk goalsOk
  refine ev_allThen (fun k i => impl_SetupOk.l0 k gs (gs.length : Int) i a b c gs p1 u v p2 d e m x) _ _ ?_ ?_ ?_
  · refine impl_SetupOk.l0.st (ev_neg (by omega) (ev_call (implRule _ _ _) (ev_test (fun h => ?_) (fun h => ?_))))
    · rw [h, Bool.true_and]
      refine ev_bind (implBehave p1 u v p2 d e m x h1 h2) (ev_test (fun h => ?_) (fun h => ?_))
      · rw [h, Bool.true_and]
        exact ev_call (iIn _ _ _) ev_now
      · rw [h, Bool.false_and]
        exact ev_now
    · rw [h, Bool.false_and]
      exact ev_now
  · intro i hi hg r H
    unfold goalAt at hg
    rw [Bool.and_eq_true] at hg
    have hi' : i < gs.length := hi
    refine impl_SetupOk.l0.st (ev_pos (by omega) (ev_pos (by omega) (ev_pos (by omega) (ev_bind (implGoal _ _ _ (hf.at i hi')) (ev_pos hg.1 (ev_pos (by omega) (ev_call (goalThere gs i hi' _ _) (ev_neg (by rw [hg.2]; simp) ?_))))))))
    rw [w64 (by omega) (by omega)]
    exact H
  · intro i hi hg
    have hi' : i < gs.length := hi
    refine impl_SetupOk.l0.st (ev_pos (by omega) (ev_pos (by omega) (ev_pos (by omega) (ev_bind (implGoal _ _ _ (hf.at i hi')) (ev_test (fun ho => ?_) (fun ho => ev_now))))))
    unfold goalAt at hg
    rw [ho, Bool.true_and] at hg
    exact ev_pos (by omega) (ev_call (goalThere gs i hi' _ _) (ev_pos (by rw [hg]; rfl) ev_now))
end Go.Proofs.YtidkiabehmdofaaGreatDoor.PA
