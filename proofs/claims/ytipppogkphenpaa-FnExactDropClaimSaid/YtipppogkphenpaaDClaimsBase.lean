/- The plain laws that the statements on claims share: names, claims, lists of claims: what the reference and the program answer, in one form; the copies and comparisons that the statements make. No condition but that texts and lists fit into memory. -/
import Derived.Test.YtipppogkphenpaaAid
import Derived.Test.YtipppogkphenpaaPDx0
import Derived.Test.YtipppogkphenpaaPDx1
import Derived.Test.YtipppogkphenpaaPDx2
namespace Go.Proofs.Ytipppogkphenpaa.PD
open Go.RowKit Go.Proofs.YtipppogkphenpaaW.PrintWords Go.Proofs.YtipppogkphenpaaW.PrintLast Go.Proofs.YtipppogkphenpaaW.PrintMore Go.Proofs.Ytipppogkphenpaa.Aid
set_option linter.unusedVariables false
set_option linter.unusedSimpArgs false

theorem specIn (a b c : Int) : spec_l01In.f a b c = some (decide (b ≤ a ∧ a ≤ c)) := by
  unfold spec_l01In.f
  by_cases h : b ≤ a <;> simp [h]
theorem implIn (a b c : Int) : impl_in.f a b c = some (decide (b ≤ a ∧ a ≤ c)) := by
  unfold impl_in.f
  by_cases h : b ≤ a <;> simp [h]

/-- A sign of a name. -/
def signOk (b : Int) : Bool := decide ((97 ≤ b ∧ b ≤ 122) ∨ (48 ≤ b ∧ b ≤ 57))
def nameOk (s : ByteArray) : Bool := decide (1 ≤ (s.size : Int) ∧ (s.size : Int) ≤ 12) && (List.range s.size).all fun i => signOk (bt s (i : Int))

theorem specName_l0 (s : ByteArray) (hs : s.size ≤ 9223372036854775807) : Ev (fun k => spec_NameOk.l0 k s 0) ((List.range s.size).all fun i => signOk (bt s (i : Int))) := by
  refine ev_all (fun k i => spec_NameOk.l0 k s i) _ ?_ ?_ ?_
  · exact spec_NameOk.l0.st (ev_neg (by omega) ev_now)
  · intro i hi hg r H
    refine spec_NameOk.l0.st (ev_pos (by omega) (ev_pos (by omega) ?_))
    simp only [signOk, decide_eq_true_eq] at hg
    rw [w64 (by omega) (by omega)]
    repeat' (first | exact H | (refine ev_ite (fun _ => ?_) (fun _ => ?_)) | (exfalso; omega))
  · intro i hi hg
    refine spec_NameOk.l0.st (ev_pos (by omega) (ev_pos (by omega) ?_))
    simp only [signOk, decide_eq_false_iff_not] at hg
    repeat' (first | exact ev_now | (exfalso; omega) | (refine ev_ite (fun _ => ?_) (fun _ => ?_)))

theorem specName (s : ByteArray) (hs : s.size ≤ 9223372036854775807) : Ev (fun k => spec_NameOk.f k s) (nameOk s) := by
  unfold spec_NameOk.f nameOk
  refine ev_call (specIn _ _ _) (ev_test (fun h => ?_) (fun h => ?_))
  · rw [h, Bool.true_and]
    exact specName_l0 s hs
  · rw [h, Bool.false_and]
    exact ev_now

theorem implName (s : ByteArray) (hs : s.size ≤ 9223372036854775807) : Ev (fun k => impl_NameOk.f k s) (nameOk s) := by
  unfold impl_NameOk.f nameOk
  have key : Ev (fun k => impl_NameOk.l0 k s (s.size : Int) 0) (((List.range s.size).all fun i => signOk (bt s (i : Int))) && decide (1 ≤ (s.size : Int) ∧ (s.size : Int) ≤ 12)) := by
    by_cases hd : 1 ≤ (s.size : Int) ∧ (s.size : Int) ≤ 12
    · rw [decide_eq_true hd, Bool.and_true]
      refine ev_all (fun k i => impl_NameOk.l0 k s (s.size : Int) i) _ ?_ ?_ ?_
      · refine impl_NameOk.l0.st (ev_neg (by omega) (ev_call (implIn _ _ _) ?_))
        rw [decide_eq_true hd]
        exact ev_now
      · intro i hi hg r H
        refine impl_NameOk.l0.st (ev_pos (by omega) (ev_pos (by omega) (ev_pos (by omega) ?_)))
        simp only [signOk, decide_eq_true_eq] at hg
        rw [w64 (by omega) (by omega)]
        repeat' (first | exact H | (refine ev_ite (fun _ => ?_) (fun _ => ?_)) | (exfalso; omega))
      · intro i hi hg
        refine impl_NameOk.l0.st (ev_pos (by omega) (ev_pos (by omega) (ev_pos (by omega) ?_)))
        simp only [signOk, decide_eq_false_iff_not] at hg
        repeat' (first | exact ev_now | (exfalso; omega) | (refine ev_ite (fun _ => ?_) (fun _ => ?_)))
    · rw [decide_eq_false hd, Bool.and_false]
      have := ev_up (n := s.size) (fun i => Ev (fun k => impl_NameOk.l0 k s (s.size : Int) (i : Int)) false)
        (by
          refine impl_NameOk.l0.st (ev_neg (by omega) (ev_call (implIn _ _ _) ?_))
          rw [decide_eq_false hd]
          exact ev_now)
        (by
          intro i hi H
          refine impl_NameOk.l0.st (ev_pos (by omega) (ev_pos (by omega) (ev_pos (by omega) ?_)))
          rw [w64 (by omega) (by omega)]
          repeat' (first | exact H | exact ev_now | (refine ev_ite (fun _ => ?_) (fun _ => ?_)))) 0 (Nat.zero_le _)
      exact this
  rw [Bool.and_comm]
  exact key

theorem specCount (a : Int) : spec_l05Count.f a = some (decide (0 ≤ a ∧ a ≤ 1000)) := by
  unfold spec_l05Count.f
  rw [specIn]
  rfl
theorem implCount (a : Int) : impl_isCount.f a = some (decide (0 ≤ a ∧ a ≤ 1000)) := by
  unfold impl_isCount.f
  rw [implIn]
  rfl

/-- A claim in order: name, want, least, weight. -/
def claimOk (s : ByteArray) (a b c : Int) : Bool := nameOk s && decide ((0 ≤ a ∧ a ≤ 1000) ∧ (0 ≤ b ∧ b ≤ a) ∧ (1 ≤ c ∧ c ≤ 100))

theorem specClaim (s : ByteArray) (a b c : Int) (hs : s.size ≤ 9223372036854775807) : Ev (fun k => spec_l13Claim.f k s a b c) (claimOk s a b c) := by
  unfold spec_l13Claim.f claimOk
  refine ev_bind (specName s hs) (ev_test (fun h => ?_) (fun h => ?_))
  · rw [h, Bool.true_and]
    refine ev_call (specCount _) (ev_test (fun h => ?_) (fun h => ?_))
    · refine ev_call (specIn _ _ _) (ev_test (fun h2 => ?_) (fun h2 => ?_))
      · refine ev_call (specIn _ _ _) (ev_val ?_)
        simp only [decide_eq_true_eq] at h h2
        simp [h, h2]
      · simp only [decide_eq_true_eq, decide_eq_false_iff_not] at h h2
        simp [h, h2, ev_now]
    · simp only [decide_eq_false_iff_not] at h
      simp [h, ev_now]
  · rw [h, Bool.false_and]
    exact ev_now

theorem implClaim (s : ByteArray) (a b c : Int) (hs : s.size ≤ 9223372036854775807) : Ev (fun k => impl_Claim_ok.f k s a b c) (claimOk s a b c) := by
  unfold impl_Claim_ok.f claimOk
  refine ev_bind (implName s hs) (ev_test (fun h => ?_) (fun h => ?_))
  · rw [h, Bool.true_and]
    refine ev_call (implCount _) (ev_test (fun h => ?_) (fun h => ?_))
    · refine ev_call (implCount _) (ev_test (fun h2 => ?_) (fun h2 => ?_))
      · simp only [decide_eq_true_eq] at h h2
        refine ev_ite (fun h3 => ?_) (fun h3 => ?_)
        · refine ev_call (implIn _ _ _) (ev_val ?_)
          simp [h, h2, h3]
        · refine ev_val ?_
          simp [h3]
      · simp only [decide_eq_true_eq, decide_eq_false_iff_not] at h h2
        refine ev_val ?_
        congr 1
        symm
        rw [decide_eq_false_iff_not]
        omega
    · simp only [decide_eq_false_iff_not] at h
      simp [h, ev_now]
  · rw [h, Bool.false_and]
    exact ev_now

/-! ### Lists of claims -/
def okAt (x : S43) : Bool := claimOk x.f0 x.f1 x.f2 x.f3
def sameName (l : List S43) (i j : Nat) : Bool := decide ((rd_T43 l (i : Int)).f0.toList = (rd_T43 l (j : Int)).f0.toList)
def placeOk (l : List S43) (i : Nat) : Bool := okAt (rd_T43 l (i : Int)) && (List.range i).all fun j => !sameName l j i
def claimsOk (l : List S43) : Bool := decide ((l.length : Int) ≤ 16) && (List.range l.length).all (placeOk l)
/-- No text is longer than memory allows. -/
def Fits (l : List S43) : Prop := ∀ x ∈ l, x.f0.size ≤ 9223372036854775807

theorem rd_mem (l : List S43) (i : Nat) (h : i < l.length) : rd_T43 l (i : Int) = l[i] := by
  unfold rd_T43
  rw [Int.toNat_natCast, List.getD_eq_getElem?_getD, List.getElem?_eq_getElem h]
  rfl
theorem Fits.at {l : List S43} (hf : Fits l) (i : Nat) (h : i < l.length) : (rd_T43 l (i : Int)).f0.size ≤ 9223372036854775807 := by
  rw [rd_mem l i h]
  exact hf _ (List.getElem_mem h)

theorem spec_l1 (l : List S43) (hl : l.length ≤ 16) (i : Nat) (hi : i < l.length) (r : Bool) (hn : Ev (fun k => spec_ClaimsOk.l0 k l (((i + 1 : Nat)) : Int)) r) :
    Ev (fun k => spec_ClaimsOk.l1 k l (i : Int) 0) (((List.range i).all fun j => !sameName l j i) && r) := by
  have key : ∀ d j, j + d = i → Ev (fun k => spec_ClaimsOk.l1 k l (i : Int) (j : Int)) (((List.range' j d).all fun j => !sameName l j i) && r) := by
    intro d
    induction d with
    | zero =>
      intro j hj
      refine spec_ClaimsOk.l1.st (ev_neg (by omega) ?_)
      rw [w64 (by omega) (by omega)]
      exact hn
    | succ d ih =>
      intro j hj
      rw [List.range'_succ, List.all_cons]
      refine spec_ClaimsOk.l1.st (ev_pos (by omega) (ev_pos (by omega) (ev_pos (by omega) (ev_pos (by omega) (ev_pos (by omega) ?_)))))
      by_cases hs : (rd_T43 l (j : Int)).f0.toList = (rd_T43 l (i : Int)).f0.toList
      · have : sameName l j i = true := decide_eq_true hs
        rw [this]
        exact ev_pos hs ev_now
      · have : sameName l j i = false := decide_eq_false hs
        rw [this]
        refine ev_neg hs ?_
        rw [w64 (by omega) (by omega)]
        exact ih (j + 1) (by omega)
  rw [List.range_eq_range']
  exact key i 0 (by omega)

theorem specClaims (l : List S43) (hf : Fits l) : Ev (fun k => spec_ClaimsOk.f k l) (claimsOk l) := by
  unfold spec_ClaimsOk.f claimsOk
  refine ev_ite (fun h => ?_) (fun h => ?_)
  · rw [decide_eq_false (by omega), Bool.false_and]
    exact ev_now
  · rw [decide_eq_true (by omega), Bool.true_and]
    have key : ∀ d i, i + d = l.length → Ev (fun k => spec_ClaimsOk.l0 k l (i : Int)) ((List.range' i d).all (placeOk l)) := by
      intro d
      induction d with
      | zero => intro i hi; exact spec_ClaimsOk.l0.st (ev_neg (by omega) ev_now)
      | succ d ih =>
        intro i hi
        rw [List.range'_succ, List.all_cons]
        refine spec_ClaimsOk.l0.st (ev_pos (by omega) (ev_pos (by omega) (ev_bind (specClaim _ _ _ _ (hf.at i (by omega))) (ev_test (fun ho => ?_) (fun ho => ?_)))))
        · rw [show placeOk l i = ((List.range i).all fun j => !sameName l j i) by unfold placeOk okAt; rw [ho, Bool.true_and]]
          exact spec_l1 l (by omega) i (by omega) _ (ih (i + 1) (by omega))
        · rw [show placeOk l i = false by unfold placeOk okAt; rw [ho, Bool.false_and], Bool.false_and]
          exact ev_now
    rw [List.range_eq_range']
    exact key l.length 0 (by omega)

/-- Where the first claim of that name stands: before place i, or at i. -/
theorem placeOf_at (l : List S43) (nm : ByteArray) : ∀ (d j i : Nat), j + d = i → i < l.length → (rd_T43 l (i : Int)).f0.toList = nm.toList →
    (placeOf nm (l.drop j) (j : Int) = (i : Int) ↔ ∀ m, j ≤ m → m < i → (rd_T43 l (m : Int)).f0.toList ≠ nm.toList) := by
  intro d
  induction d with
  | zero =>
    intro j i hj hi hn
    obtain rfl : j = i := by omega
    rw [List.drop_eq_getElem_cons hi]
    rw [rd_mem l j hi] at hn
    simp only [placeOf, if_pos hn, true_iff]
    intro m h1 h2
    omega
  | succ d ih =>
    intro j i hj hi hn
    have hjl : j < l.length := by omega
    rw [List.drop_eq_getElem_cons hjl]
    simp only [placeOf]
    by_cases hs : l[j].f0.toList = nm.toList
    · rw [if_pos hs]
      constructor
      · intro h; omega
      · intro h
        exact absurd (by rw [rd_mem l j hjl]; exact hs) (h j (Nat.le_refl _) (by omega))
    · rw [if_neg hs, show ((j : Int) + 1) = ((j + 1 : Nat) : Int) by omega, ih (j + 1) i (by omega) hi hn]
      constructor
      · intro h m h1 h2
        by_cases hm : m = j
        · subst hm; rw [rd_mem l m hjl]; exact hs
        · exact h m (by omega) h2
      · intro h m h1 h2
        exact h m (by omega) h2

theorem implClaims (l : List S43) (hf : Fits l) : Ev (fun k => impl_ClaimsOk.f k l) (claimsOk l) := by
  unfold impl_ClaimsOk.f claimsOk
  refine ev_ite (fun h => ?_) (fun h => ?_)
  · rw [decide_eq_false (by omega), Bool.false_and]
    exact ev_now
  · rw [decide_eq_true (by omega), Bool.true_and]
    have key : ∀ d i, i + d = l.length → Ev (fun k => impl_ClaimsOk.l0 k l l (l.length : Int) (i : Int)) ((List.range' i d).all (placeOk l)) := by
      intro d
      induction d with
      | zero => intro i hi; exact impl_ClaimsOk.l0.st (ev_neg (by omega) ev_now)
      | succ d ih =>
        intro i hi
        rw [List.range'_succ, List.all_cons]
        have hp := placeOf_at l (rd_T43 l (i : Int)).f0 i 0 i (by omega) (by omega) rfl
        rw [List.drop_zero] at hp
        refine impl_ClaimsOk.l0.st (ev_pos (by omega) (ev_pos (by omega) (ev_pos (by omega) (ev_bind (implClaim _ _ _ _ (hf.at i (by omega))) (ev_test (fun ho => ?_) (fun ho => ?_))))))
        · rw [show placeOk l i = ((List.range i).all fun j => !sameName l j i) by unfold placeOk okAt; rw [ho, Bool.true_and]]
          refine ev_call (b := placeOf (rd_T43 l (i : Int)).f0 l 0) rfl ?_
          cases hall : (List.range i).all fun j => !sameName l j i with
          | true =>
            rw [List.all_eq_true] at hall
            refine ev_pos (hp.2 fun m _ hm => ?_) ?_
            · have := hall m (List.mem_range.2 hm)
              simpa only [sameName, Bool.not_eq_true', decide_eq_false_iff_not] using this
            · rw [Bool.true_and, w64 (by omega) (by omega)]
              exact ih (i + 1) (by omega)
          | false =>
            rw [Bool.false_and]
            refine ev_neg (fun he => ?_) ev_now
            have := hp.1 he
            rw [List.all_eq_false] at hall
            obtain ⟨m, hm, hs⟩ := hall
            simp only [sameName, Bool.not_eq_true', Bool.not_eq_false, decide_eq_true_eq, decide_eq_false_iff_not, Decidable.not_not] at hs
            exact this m (Nat.zero_le _) (List.mem_range.1 hm) hs
        · rw [show placeOk l i = false by unfold placeOk okAt; rw [ho, Bool.false_and], Bool.false_and]
          exact ev_now
    rw [List.range_eq_range']
    exact key l.length 0 (by omega)

/-! ### What the statements do with a list that came in -/
def conv (x : S39) : S43 := ⟨x.f0, x.f1, x.f2, x.f3⟩

theorem sz_claim (x : S39) (a : Int) (h0 : 0 ≤ a) (h1 : a ≤ 1048576) (hs : x.f0.size ≤ 9223372036854775807) :
    laws_szClaim.f x.f0 x.f1 x.f2 x.f3 a = some (if a - (x.f0.size : Int) < 0 then -1 else a - (x.f0.size : Int)) := by
  unfold laws_szClaim.f
  rw [w64 (by omega) (by omega)]
  split <;> rfl

theorem rd39_mem (l : List S39) (i : Nat) (h : i < l.length) : rd_T39 l (i : Int) = l[i] := by
  unfold rd_T39
  rw [Int.toNat_natCast, List.getD_eq_getElem?_getD, List.getElem?_eq_getElem h]
  rfl

/-- The count of places and letters ends below 0, or the list is small. -/
theorem szClaims (l : List S39) (hl : l.length ≤ 9223372036854775807) (hs : ∀ x ∈ l, x.f0.size ≤ 9223372036854775807) :
    ∃ r, Ev (fun k => laws_szClaimS.f k l 1048576) r ∧ (¬ r < 0 → l.length ≤ 1048576 ∧ r ≤ 1048576) := by
  unfold laws_szClaimS.f
  rw [w64 (by omega) (by omega)]
  by_cases h : (1048576 : Int) - (l.length : Int) < 0
  · exact ⟨-1, ev_pos h ev_now, fun h => absurd (by omega) h⟩
  · have key : ∀ d i, i + d = l.length → ∀ a : Int, 0 ≤ a → a ≤ 1048576 → ∃ r, Ev (fun k => laws_szClaimS.l0 k l a (i : Int)) r ∧ r ≤ 1048576 := by
      intro d
      induction d with
      | zero => intro i hi a h0 h1; exact ⟨a, laws_szClaimS.l0.st (ev_neg (by omega) ev_now), h1⟩
      | succ d ih =>
        intro i hi a h0 h1
        have hsz : (rd_T39 l (i : Int)).f0.size ≤ 9223372036854775807 := by rw [rd39_mem l i (by omega)]; exact hs _ (List.getElem_mem _)
        by_cases hn : a - ((rd_T39 l (i : Int)).f0.size : Int) < 0
        · exact ⟨-1, laws_szClaimS.l0.st (ev_pos (by omega) (ev_pos (by omega) (ev_call (sz_claim _ a h0 h1 hsz) (by rw [if_pos hn]; exact ev_pos (by omega) ev_now)))), by omega⟩
        · obtain ⟨r, hr, hr1⟩ := ih (i + 1) (by omega) (a - ((rd_T39 l (i : Int)).f0.size : Int)) (by omega) (by omega)
          refine ⟨r, laws_szClaimS.l0.st (ev_pos (by omega) (ev_pos (by omega) (ev_call (sz_claim _ a h0 h1 hsz) ?_))), hr1⟩
          rw [if_neg hn]
          refine ev_neg hn ?_
          rw [w64 (by omega) (by omega)]
          exact hr
    obtain ⟨r, hr, hr1⟩ := key l.length 0 (by omega) (1048576 - (l.length : Int)) (by omega) (by omega)
    exact ⟨r, ev_neg h hr, fun _ => ⟨by omega, hr1⟩⟩

theorem toClaims (l : List S39) (hl : l.length ≤ 1048576) : Ev (fun k => laws_toClaimS.f k l) (l.map conv) := by
  unfold laws_toClaimS.f
  refine ev_pos (by omega) (ev_pos (by omega) ?_)
  have key : ∀ d i (ys : List S43), i + d = l.length → ys.length = l.length → ys.take i = (l.map conv).take i → Ev (fun k => laws_toClaimS.l0 k l ys (i : Int)) (l.map conv) := by
    intro d
    induction d with
    | zero =>
      intro i ys hi hy he
      rw [List.take_of_length_le (by omega), List.take_of_length_le (by rw [List.length_map]; omega)] at he
      rw [← he]
      exact laws_toClaimS.l0.st (ev_neg (by omega) ev_now)
    | succ d ih =>
      intro i ys hi hy he
      refine laws_toClaimS.l0.st (ev_pos (by omega) (ev_pos (by omega) (ev_call (b := ((rd_T39 l (i : Int)).f0, (rd_T39 l (i : Int)).f1, (rd_T39 l (i : Int)).f2, (rd_T39 l (i : Int)).f3)) rfl (ev_pos (by omega) ?_))))
      rw [w64 (by omega) (by omega)]
      refine ih (i + 1) _ (by omega) (by rw [List.length_set]; exact hy) ?_
      rw [Int.toNat_natCast, rd39_mem l i (by omega), List.take_add_one, List.take_add_one, List.getElem?_set_self (by omega), List.getElem?_map, List.getElem?_eq_getElem (by omega), List.take_set_of_le (by omega), he]
      rfl
  exact key l.length 0 _ (by omega) (by simp) (by simp)

theorem Fits.conv {l : List S39} (hs : ∀ x ∈ l, x.f0.size ≤ 9223372036854775807) : Fits (l.map conv) := by
  intro x hx
  obtain ⟨y, hy, rfl⟩ := List.mem_map.1 hx
  exact hs y hy

/-- A list is equal to itself. -/
theorem eqClaims (l : List S43) (hl : l.length ≤ 1048577) : Ev (fun k => laws_eqClaimS.f k l l) true := by
  unfold laws_eqClaimS.f
  refine ev_pos rfl ?_
  have := ev_up (n := l.length) (fun i => Ev (fun k => laws_eqClaimS.l0 k l l (i : Int)) true) (laws_eqClaimS.l0.st (ev_neg (by omega) ev_now))
    (by
      intro i hi H
      refine laws_eqClaimS.l0.st (ev_pos (by omega) (ev_pos (by omega) (ev_pos (by omega) (ev_call (b := true) ?_ (ev_pos rfl ?_)))))
      · unfold laws_eqClaim.f
        rw [if_pos rfl, if_pos rfl, if_pos rfl, if_pos rfl]
      · rw [w64 (by omega) (by omega)]
        exact H) 0 (Nat.zero_le _)
  exact this

end Go.Proofs.Ytipppogkphenpaa.PD
