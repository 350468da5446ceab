/- The plain statement of FnExactShareFair: on every list of claims and every list of whole numbers that fit into memory the reference's ShareFair and the program's give one answer, and the lists that were handed over are as they were. No further condition. -/
import Derived.Test.YtipppogkphenpaaNeedOf
import Derived.Test.YtipppogkphenpaaSumBase
import Derived.Test.YtipppogkphenpaaPAx0
import Derived.Test.YtipppogkphenpaaPAx8
import Derived.Test.YtipppogkphenpaaStA6
import Derived.Test.YtipppogkphenpaaStA7
namespace Go.Proofs.Ytipppogkphenpaa.PA
open Go.RowKit Go.Proofs.YtipppogkphenpaaW.PrintWords Go.Proofs.YtipppogkphenpaaW.PrintLast Go.Proofs.YtipppogkphenpaaW.PrintMore Go.Proofs.Ytipppogkphenpaa.Aid
set_option linter.unusedVariables false

theorem mul_wrap {a b : Int} (h0 : -1 ≤ a) (h1 : a ≤ 1000) (h2 : 1 ≤ b) (h3 : b ≤ 100) : wrap64 (a * b) = a * b ∧ a * b ≤ 100000 ∧ -100 ≤ a * b := by
  have : a * b ≤ 1000 * 100 := by
    have := Int.mul_le_mul_of_nonneg_right h1 (by omega : (0 : Int) ≤ b)
    have h4 := Int.mul_le_mul_of_nonneg_left h3 (by omega : (0 : Int) ≤ 1000)
    omega
  have h5 : -b ≤ a * b := by
    have := Int.mul_le_mul_of_nonneg_right h0 (by omega : (0 : Int) ≤ b)
    omega
  exact ⟨w64 (by omega) (by omega), by omega, by omega⟩

section
variable (l : List S43) (xs : List Int)
/-- The second part: nobody could be served from another. -/
theorem fair_l1 (hok : claimsOk l = true) (hx : xs.length = l.length) (hin : ∀ i, i < l.length → (rd_T43 l (i : Int)).f2 ≤ rd xs (i : Int) ∧ rd xs (i : Int) ≤ (rd_T43 l (i : Int)).f1) :
    Both (fun k => spec_ShareFair.l1 k l xs 0) (fun k => impl_ShareFair.l1 k l xs l (l.length : Int) 0) := by
  have hl := claimsOk_length hok
  have outer := ev_up (n := l.length) (fun i => Both (fun k => spec_ShareFair.l1 k l xs (i : Int)) (fun k => impl_ShareFair.l1 k l xs l (l.length : Int) (i : Int)))
    (Both.of (r := true) (spec_ShareFair.l1.st (ev_neg (by omega) ev_now)) (impl_ShareFair.l1.st (ev_neg (by omega) ev_now)))
    (by
      intro i hi H
      have ci := claimsOk_at hok i hi
      have hi2 := hin i hi
      have inner := ev_up (n := l.length) (fun j => Both (fun k => spec_ShareFair.l2 k l xs (i : Int) (j : Int)) (fun k => impl_ShareFair.l2 k l xs (i : Int) l (l.length : Int) (i : Int) l (l.length : Int) (j : Int) (rd_T43 l (i : Int)).f0 (rd_T43 l (i : Int)).f1 (rd_T43 l (i : Int)).f2 (rd_T43 l (i : Int)).f3))
        (by
          obtain ⟨r, h1, h2⟩ := H
          refine ⟨r, spec_ShareFair.l2.st (ev_neg (by omega) ?_), impl_ShareFair.l2.st (ev_neg (by omega) ?_)⟩
          · rw [w64 (by omega) (by omega)]; exact h1
          · rw [w64 (by omega) (by omega)]; exact h2)
        (by
          intro j hj H2
          have cj := claimsOk_at hok j hj
          have hj2 := hin j hj
          by_cases hij : (i : Int) = (j : Int)
          · obtain ⟨r, h1, h2⟩ := H2
            refine ⟨r, ?_, ?_⟩
            · refine spec_ShareFair.l2.st (ev_pos (by omega) (ev_pos hij ?_))
              rw [w64 (x := (j : Int) + 1) (by omega) (by omega)]; exact h1
            · refine impl_ShareFair.l2.st (ev_pos (by omega) (ev_pos (by omega) (ev_pos (by omega) (ev_pos (by omega) (ev_pos (by omega) ?_)))))
              rw [w64 (x := (j : Int) + 1) (by omega) (by omega)]
              refine ev_ite (fun h3 => ?_) (fun h3 => h2)
              refine ev_pos (by omega) (ev_ite (fun h4 => ?_) (fun h4 => h2))
              refine ev_neg ?_ h2
              obtain rfl : i = j := by omega
              have b1 : -1 ≤ rd xs (i : Int) - 1 := by omega
              have b2 : rd xs (i : Int) - 1 ≤ 1000 := by omega
              have b3 : 1 ≤ (rd_T43 l (i : Int)).f3 := by omega
              have b4 : (rd_T43 l (i : Int)).f3 ≤ 100 := by omega
              have b5 : -1 ≤ rd xs (i : Int) := by omega
              have b6 : rd xs (i : Int) ≤ 1000 := by omega
              rw [w64 (x := rd xs (i : Int) - 1) (by omega) (by omega), (mul_wrap b1 b2 b3 b4).1, (mul_wrap b5 b6 b3 b4).1, Int.sub_mul, Int.one_mul]
              generalize rd xs (i : Int) * (rd_T43 l (i : Int)).f3 = z
              generalize (rd_T43 l (i : Int)).f3 = y at b3 ⊢
              clear ci hi2 cj hj2 h3 h4 b1 b2 b4 b5 b6
              omega
          · obtain ⟨r, h1, h2⟩ := H2
            have sp : ∀ r, Ev (fun k => if (rd xs (i : Int)) < ((rd_T43 l (i : Int)).f1) then (if (rd xs (j : Int)) > ((rd_T43 l (j : Int)).f2) then (if (wrap64 ((wrap64 ((rd xs (j : Int)) - 1)) * ((rd_T43 l (i : Int)).f3))) > (wrap64 ((rd xs (i : Int)) * ((rd_T43 l (j : Int)).f3))) then some false else spec_ShareFair.l2 k l xs (i : Int) ((j + 1 : Nat) : Int)) else spec_ShareFair.l2 k l xs (i : Int) ((j + 1 : Nat) : Int)) else spec_ShareFair.l2 k l xs (i : Int) ((j + 1 : Nat) : Int)) r → Ev (fun k => spec_ShareFair.l2 k l xs (i : Int) (j : Int)) r := by
              intro r h
              refine spec_ShareFair.l2.st (ev_pos (by omega) (ev_neg hij (ev_pos (by omega) (ev_pos (by omega) (ev_pos (by omega) ?_)))))
              rw [w64 (x := (j : Int) + 1) (by omega) (by omega)]
              by_cases c1 : (rd xs (i : Int)) < ((rd_T43 l (i : Int)).f1)
              · simp only [if_pos c1] at h ⊢
                exact ev_pos (by omega) (ev_pos (by omega) h)
              · simp only [if_neg c1] at h ⊢
                exact h
            have im : ∀ r, Ev (fun k => if (rd xs (i : Int)) < ((rd_T43 l (i : Int)).f1) then (if (rd xs (j : Int)) > ((rd_T43 l (j : Int)).f2) then (if (wrap64 ((wrap64 ((rd xs (j : Int)) - 1)) * ((rd_T43 l (i : Int)).f3))) > (wrap64 ((rd xs (i : Int)) * ((rd_T43 l (j : Int)).f3))) then some false else impl_ShareFair.l2 k l xs (i : Int) l (l.length : Int) (i : Int) l (l.length : Int) ((j + 1 : Nat) : Int) (rd_T43 l (i : Int)).f0 (rd_T43 l (i : Int)).f1 (rd_T43 l (i : Int)).f2 (rd_T43 l (i : Int)).f3) else impl_ShareFair.l2 k l xs (i : Int) l (l.length : Int) (i : Int) l (l.length : Int) ((j + 1 : Nat) : Int) (rd_T43 l (i : Int)).f0 (rd_T43 l (i : Int)).f1 (rd_T43 l (i : Int)).f2 (rd_T43 l (i : Int)).f3) else impl_ShareFair.l2 k l xs (i : Int) l (l.length : Int) (i : Int) l (l.length : Int) ((j + 1 : Nat) : Int) (rd_T43 l (i : Int)).f0 (rd_T43 l (i : Int)).f1 (rd_T43 l (i : Int)).f2 (rd_T43 l (i : Int)).f3) r →
                Ev (fun k => impl_ShareFair.l2 k l xs (i : Int) l (l.length : Int) (i : Int) l (l.length : Int) (j : Int) (rd_T43 l (i : Int)).f0 (rd_T43 l (i : Int)).f1 (rd_T43 l (i : Int)).f2 (rd_T43 l (i : Int)).f3) r := by
              intro r h
              refine impl_ShareFair.l2.st (ev_pos (by omega) (ev_pos (by omega) (ev_pos (by omega) (ev_pos (by omega) (ev_pos (by omega) ?_)))))
              rw [w64 (x := (j : Int) + 1) (by omega) (by omega)]
              by_cases c1 : (rd xs (i : Int)) < ((rd_T43 l (i : Int)).f1)
              · simp only [if_pos c1] at h ⊢
                exact ev_pos (by omega) h
              · simp only [if_neg c1] at h ⊢
                exact h
            by_cases c1 : (rd xs (i : Int)) < ((rd_T43 l (i : Int)).f1)
            · by_cases c2 : (rd xs (j : Int)) > ((rd_T43 l (j : Int)).f2)
              · by_cases c3 : (wrap64 ((wrap64 ((rd xs (j : Int)) - 1)) * ((rd_T43 l (i : Int)).f3))) > (wrap64 ((rd xs (i : Int)) * ((rd_T43 l (j : Int)).f3)))
                · exact Both.of (r := false) (sp _ (by simp only [if_pos c1, if_pos c2, if_pos c3]; exact ev_now)) (im _ (by simp only [if_pos c1, if_pos c2, if_pos c3]; exact ev_now))
                · exact Both.of (sp _ (by simp only [if_pos c1, if_pos c2, if_neg c3]; exact h1)) (im _ (by simp only [if_pos c1, if_pos c2, if_neg c3]; exact h2))
              · exact Both.of (sp _ (by simp only [if_pos c1, if_neg c2]; exact h1)) (im _ (by simp only [if_pos c1, if_neg c2]; exact h2))
            · exact Both.of (sp _ (by simp only [if_neg c1]; exact h1)) (im _ (by simp only [if_neg c1]; exact h2))) 0 (Nat.zero_le _)
      obtain ⟨r, h1, h2⟩ := inner
      exact ⟨r, spec_ShareFair.l1.st (ev_pos (by omega) h1), impl_ShareFair.l1.st (ev_pos (by omega) (ev_pos (by omega) (ev_pos (by omega) h2)))⟩) 0 (Nat.zero_le _)
  exact outer

theorem fair_l0 (hok : claimsOk l = true) (hx : xs.length = l.length) : Both (fun k => spec_ShareFair.l0 k l xs 0) (fun k => impl_ShareFair.l0 k l xs l (l.length : Int) 0) := by
  have hl := claimsOk_length hok
  have key : ∀ d i, i + d = l.length → (∀ j, j < i → (rd_T43 l (j : Int)).f2 ≤ rd xs (j : Int) ∧ rd xs (j : Int) ≤ (rd_T43 l (j : Int)).f1) →
      Both (fun k => spec_ShareFair.l0 k l xs (i : Int)) (fun k => impl_ShareFair.l0 k l xs l (l.length : Int) (i : Int)) := by
    intro d
    induction d with
    | zero =>
      intro i hi hall
      obtain ⟨r, h1, h2⟩ := fair_l1 l xs hok hx (fun j hj => hall j (by omega))
      exact ⟨r, spec_ShareFair.l0.st (ev_neg (by omega) h1), impl_ShareFair.l0.st (ev_neg (by omega) h2)⟩
    | succ d ih =>
      intro i hi hall
      by_cases hc : (rd_T43 l (i : Int)).f2 ≤ rd xs (i : Int) ∧ rd xs (i : Int) ≤ (rd_T43 l (i : Int)).f1
      · obtain ⟨r, h1, h2⟩ := ih (i + 1) (by omega) (fun j hj => by
          by_cases hji : j = i
          · subst hji; exact hc
          · exact hall j (by omega))
        refine ⟨r, spec_ShareFair.l0.st (ev_pos (by omega) (ev_pos (by omega) (ev_pos (by omega) (ev_call (specIn _ _ _) (ev_pos (decide_eq_true hc) ?_))))), impl_ShareFair.l0.st (ev_pos (by omega) (ev_pos (by omega) (ev_pos (by omega) (ev_pos (by omega) (ev_call (implIn _ _ _) (ev_pos (decide_eq_true hc) ?_))))))⟩
        · rw [w64 (x := (i : Int) + 1) (by omega) (by omega)]; exact h1
        · rw [w64 (x := (i : Int) + 1) (by omega) (by omega)]; exact h2
      · exact ⟨false, spec_ShareFair.l0.st (ev_pos (by omega) (ev_pos (by omega) (ev_pos (by omega) (ev_call (specIn _ _ _) (ev_neg (by rw [decide_eq_false hc]; simp) ev_now))))), impl_ShareFair.l0.st (ev_pos (by omega) (ev_pos (by omega) (ev_pos (by omega) (ev_pos (by omega) (ev_call (implIn _ _ _) (ev_neg (by rw [decide_eq_false hc]; simp) ev_now))))))⟩
  exact key l.length 0 (by omega) (fun j hj => absurd hj (Nat.not_lt_zero _))

theorem fairBoth (hf : Fits l) : Both (fun k => spec_ShareFair.f k l xs) (fun k => impl_ShareFair.f k l xs) := by
  unfold spec_ShareFair.f impl_ShareFair.f
  cases hok : claimsOk l with
  | false =>
    have h1 := specClaims l hf
    have h2 := implClaims l hf
    rw [hok] at h1 h2
    exact ⟨false, ev_bind h1 (ev_neg (by simp) (spec_ShareFair.j0.st (ev_pos rfl ev_now))), ev_bind h2 (ev_neg (by simp) (impl_ShareFair.j0.st (ev_pos rfl ev_now)))⟩
  | true =>
    have h1 := specClaims l hf
    have h2 := implClaims l hf
    rw [hok] at h1 h2
    by_cases hx : xs.length = l.length
    · obtain ⟨r, h3, h4⟩ := fair_l0 l xs hok hx
      exact ⟨r, ev_bind h1 (ev_pos rfl (spec_ShareFair.j0.st (ev_neg (by simp [hx]) h3))), ev_bind h2 (ev_pos rfl (impl_ShareFair.j0.st (ev_neg (by simp [hx]) h4)))⟩
    · have hx2 : (((xs.length : Int) != (l.length : Int))) = true := by simp; omega
      exact ⟨false, ev_bind h1 (ev_pos rfl (spec_ShareFair.j0.st (ev_pos hx2 ev_now))), ev_bind h2 (ev_pos rfl (impl_ShareFair.j0.st (ev_pos hx2 ev_now)))⟩
end

theorem plainShareFair (l : List S39) (xs : List Int) (hl : l.length ≤ 9223372036854775807) (hs : ∀ x ∈ l, x.f0.size ≤ 9223372036854775807) : Ev (fun k => laws_FnExactShareFair.f k l xs) true := by
  unfold laws_FnExactShareFair.f
  refine ev_ite (fun _ => ev_now) (fun h0 => ?_)
  obtain ⟨r, hr, hrl⟩ := szClaims l hl hs
  refine ev_bind hr (ev_ite (fun _ => ev_now) (fun h => ?_))
  have h1 := (hrl h).1
  have h2 : xs.length ≤ 1048576 := by omega
  have hf := Fits.conv hs
  obtain ⟨q, hq1, hq2⟩ := fairBoth (l.map conv) xs hf
  refine ev_bind (toClaims l h1) (ev_bind (toInts xs h2) (ev_bind hq1 (ev_bind (toClaims l h1) (ev_bind (toInts xs h2) (ev_bind hq2 (ev_neg (by simp) (ev_bind (toClaims l h1) (ev_bind (eqClaims _ (by rw [List.length_map]; omega)) (ev_pos rfl (ev_bind (toInts xs h2) (ev_bind (eqInts xs h2) (ev_pos rfl ev_now))))))))))))
end Go.Proofs.Ytipppogkphenpaa.PA
