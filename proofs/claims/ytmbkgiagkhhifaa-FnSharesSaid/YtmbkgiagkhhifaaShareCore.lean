/- What ShareOut and LeftOver answer: the reference's and the program's give one answer for every budget and every list of claims. No condition but that texts fit into memory. -/
import Derived.Test.YtmbkgiagkhhifaaNeedCore
import Derived.Test.YtmbkgiagkhhifaaSumCore
import Derived.Test.YtmbkgiagkhhifaaPAx0
import Derived.Test.YtmbkgiagkhhifaaPAx2
import Derived.Test.YtmbkgiagkhhifaaPAx3
namespace Go.Proofs.Ytmbkgiagkhhifaa.PA
open Go.RowKit Go.Proofs.YtmbkgiagkhhifaaW.PrintWords Go.Proofs.YtmbkgiagkhhifaaW.PrintLast Go.Proofs.YtmbkgiagkhhifaaW.PrintMore Go.Proofs.Ytmbkgiagkhhifaa.Aid
set_option linter.unusedVariables false

/-- One share more for a place. -/
def oneMore (xs : List Int) (b : Int) : List Int := xs.set b.toNat (wrap64 ((rd xs b) + 1))

/-- The rounds: each gives out one unit, or stops. -/
theorem out_l1 (l : List S44) (hl : l.length ≤ 16) : ∀ (m : Nat) (xs : List Int), xs.length = l.length → (m : Int) ≤ 1000000 →
    ∃ ys, ys.length = l.length ∧ Ev (fun k => spec_ShareOut.l1 k l xs (m : Int)) (ys, true) ∧ Ev (fun k => impl_ShareOut.l1 k l xs (m : Int)) (ys, true) := by
  intro m
  induction m with
  | zero => intro xs hx _; exact ⟨xs, hx, spec_ShareOut.l1.st (ev_neg (by omega) ev_now), impl_ShareOut.l1.st (ev_neg (by omega) ev_now)⟩
  | succ m ih =>
    intro xs hx hm
    have key : ∀ d i (b : Int), i + d = l.length → (b < 0 ∨ (0 ≤ b ∧ b < (l.length : Int))) →
        ∃ ys, ys.length = l.length ∧ Ev (fun k => spec_ShareOut.l2 k l xs ((m + 1 : Nat) : Int) b (i : Int)) (ys, true) ∧ Ev (fun k => impl_ShareOut.l2 k l xs ((m + 1 : Nat) : Int) b l (l.length : Int) (i : Int)) (ys, true) := by
      intro d
      induction d with
      | zero =>
        intro i b hi hb
        by_cases hb0 : b < 0
        · exact ⟨xs, hx, spec_ShareOut.l2.st (ev_neg (by omega) (ev_pos hb0 ev_now)), impl_ShareOut.l2.st (ev_neg (by omega) (ev_pos hb0 ev_now))⟩
        · obtain ⟨ys, h0, h1, h2⟩ := ih (oneMore xs b) (by unfold oneMore; rw [List.length_set]; exact hx) (by omega)
          have e : wrap64 (((m + 1 : Nat) : Int) - 1) = (m : Int) := by rw [w64 (by omega) (by omega)]; omega
          refine ⟨ys, h0, spec_ShareOut.l2.st (ev_neg (by omega) (ev_neg hb0 (ev_pos (by omega) (ev_pos (by omega) ?_)))), impl_ShareOut.l2.st (ev_neg (by omega) (ev_neg hb0 (ev_pos (by omega) (ev_pos (by omega) ?_))))⟩
          · rw [e]; exact h1
          · rw [e]; exact h2
      | succ d ihd =>
        intro i b hi hb
        have e : wrap64 ((i : Int) + 1) = ((i + 1 : Nat) : Int) := w64 (by omega) (by omega)
        obtain ⟨ys, h0, h1, h2⟩ := ihd (i + 1) b (by omega) hb
        obtain ⟨zs, g0, g1, g2⟩ := ihd (i + 1) (i : Int) (by omega) (by omega)
        by_cases c1 : (rd xs (i : Int)) < ((rd_T44 l (i : Int)).f1)
        · by_cases hb0 : b < 0
          · refine ⟨zs, g0, spec_ShareOut.l2.st (ev_pos (by omega) (ev_pos (by omega) (ev_pos (by omega) (ev_pos c1 (ev_pos hb0 ?_))))), impl_ShareOut.l2.st (ev_pos (by omega) (ev_pos (by omega) (ev_pos (by omega) (ev_pos (by omega) (ev_pos c1 (ev_pos hb0 ?_))))))⟩
            · rw [e]; exact g1
            · rw [e]; exact g2
          · by_cases c2 : (wrap64 ((rd xs (i : Int)) * ((rd_T44 l b).f3))) < (wrap64 ((rd xs b) * ((rd_T44 l (i : Int)).f3)))
            · refine ⟨zs, g0, spec_ShareOut.l2.st (ev_pos (by omega) (ev_pos (by omega) (ev_pos (by omega) (ev_pos c1 (ev_neg hb0 (ev_pos (by omega) (ev_pos (by omega) (ev_pos (by omega) (ev_pos c2 ?_))))))))), impl_ShareOut.l2.st (ev_pos (by omega) (ev_pos (by omega) (ev_pos (by omega) (ev_pos (by omega) (ev_pos c1 (ev_neg hb0 (ev_pos (by omega) (ev_pos (by omega) (ev_pos (by omega) (ev_pos c2 ?_))))))))))⟩
              · rw [e]; exact g1
              · rw [e]; exact g2
            · refine ⟨ys, h0, spec_ShareOut.l2.st (ev_pos (by omega) (ev_pos (by omega) (ev_pos (by omega) (ev_pos c1 (ev_neg hb0 (ev_pos (by omega) (ev_pos (by omega) (ev_pos (by omega) (ev_neg c2 ?_))))))))), impl_ShareOut.l2.st (ev_pos (by omega) (ev_pos (by omega) (ev_pos (by omega) (ev_pos (by omega) (ev_pos c1 (ev_neg hb0 (ev_pos (by omega) (ev_pos (by omega) (ev_pos (by omega) (ev_neg c2 ?_))))))))))⟩
              · rw [e]; exact h1
              · rw [e]; exact h2
        · refine ⟨ys, h0, spec_ShareOut.l2.st (ev_pos (by omega) (ev_pos (by omega) (ev_pos (by omega) (ev_neg c1 ?_)))), impl_ShareOut.l2.st (ev_pos (by omega) (ev_pos (by omega) (ev_pos (by omega) (ev_pos (by omega) (ev_neg c1 ?_)))))⟩
          · rw [e]; exact h1
          · rw [e]; exact h2
    obtain ⟨ys, h0, h1, h2⟩ := key l.length 0 (-1) (by omega) (Or.inl (by omega))
    exact ⟨ys, h0, spec_ShareOut.l1.st (ev_pos (by omega) h1), impl_ShareOut.l1.st (ev_pos (by omega) h2)⟩

/-- The Leasts of the first places. -/
def leasts (l : List S44) (n : Nat) : List Int := (List.range n).map (fun (i : Nat) => (rd_T44 l (i : Int)).f2)
theorem leasts_next (l : List S44) (n : Nat) : leasts l n ++ [(rd_T44 l (n : Int)).f2] = leasts l (n + 1) := by
  unfold leasts
  rw [List.range_succ, List.map_append]
  rfl
theorem leasts_length (l : List S44) (n : Nat) : (leasts l n).length = n := by simp [leasts]

theorem shareBoth (b : Int) (l : List S44) (hf : Fits l) : ∃ (ys : List Int) (ok : Bool), ys.length ≤ 16 ∧ Ev (fun k => spec_ShareOut.f k b l) (ys, ok) ∧ Ev (fun k => impl_ShareOut.f k b l) (ys, ok) := by
  unfold spec_ShareOut.f impl_ShareOut.f
  cases hok : claimsOk l with
  | false =>
    have h1 := specClaims l hf
    rw [hok] at h1
    have h2 := specNeed l hf
    have h3 := implNeed l hf
    have hn : needOf l = (-1, -1) := by unfold needOf; rw [hok]; rfl
    rw [hn] at h2 h3
    exact ⟨[], false, by simp, ev_call rfl (ev_bind h2 (ev_bind h1 (ev_neg (by simp) (spec_ShareOut.j0.st (ev_pos rfl ev_now))))), ev_bind h3 (ev_pos (by simp) (impl_ShareOut.j0.st (ev_pos rfl ev_now)))⟩
  | true =>
    have h1 := specClaims l hf
    rw [hok] at h1
    have h2 := specNeed l hf
    have h3 := implNeed l hf
    have hl := claimsOk_length hok
    have hr := sums_range hok l.length (Nat.le_refl _)
    have hn : needOf l = (leastSum l l.length, wantSum l l.length) := by unfold needOf; rw [if_pos hok]
    rw [hn] at h2 h3
    by_cases hc : 0 ≤ b ∧ b ≤ 1000
    · by_cases hd : leastSum l l.length > b
      · exact ⟨[], false, by simp, ev_call rfl (ev_bind h2 (ev_bind h1 (ev_pos rfl (ev_call (specCount _) (ev_pos (decide_eq_true hc) (spec_ShareOut.j0.st (ev_pos (decide_eq_true hd) ev_now))))))), ev_bind h3 (ev_neg (by show ¬ leastSum l l.length < 0; omega) (ev_call (implCount _) (ev_pos (decide_eq_true hc) (impl_ShareOut.j0.st (ev_pos (decide_eq_true hd) ev_now)))))⟩
      · obtain ⟨m, hm⟩ : ∃ m : Nat, (m : Int) = b - leastSum l l.length := ⟨(b - leastSum l l.length).toNat, by omega⟩
        obtain ⟨ys, g0, g1, g2⟩ := out_l1 l hl m (leasts l l.length) (leasts_length l _) (by omega)
        have key1 := ev_up (n := l.length) (fun i => Ev (fun k => spec_ShareOut.l0 k b l (leasts l i) (leastSum l l.length) (i : Int)) (ys, true))
          (by
            refine spec_ShareOut.l0.st (ev_neg (by omega) ?_)
            rw [w64 (by omega) (by omega), ← hm]
            exact g1)
          (by
            intro i hi H
            refine spec_ShareOut.l0.st (ev_pos (by omega) (ev_pos (by omega) (ev_pos (by rw [leasts_length]; omega) ?_)))
            rw [leasts_next, w64 (by omega) (by omega)]
            exact H) 0 (Nat.zero_le _)
        have key2 := ev_up (n := l.length) (fun i => Ev (fun k => impl_ShareOut.l0 k b l (leastSum l l.length) (leasts l i) l (l.length : Int) (i : Int)) (ys, true))
          (by
            refine impl_ShareOut.l0.st (ev_neg (by omega) ?_)
            rw [w64 (by omega) (by omega), ← hm]
            exact g2)
          (by
            intro i hi H
            refine impl_ShareOut.l0.st (ev_pos (by omega) (ev_pos (by omega) (ev_pos (by omega) (ev_pos (by rw [leasts_length]; omega) ?_))))
            rw [leasts_next, w64 (by omega) (by omega)]
            exact H) 0 (Nat.zero_le _)
        exact ⟨ys, true, by omega, ev_call rfl (ev_bind h2 (ev_bind h1 (ev_pos rfl (ev_call (specCount _) (ev_pos (decide_eq_true hc) (spec_ShareOut.j0.st (ev_neg (by rw [decide_eq_false hd]; simp) key1))))))), ev_bind h3 (ev_neg (by show ¬ leastSum l l.length < 0; omega) (ev_call (implCount _) (ev_pos (decide_eq_true hc) (impl_ShareOut.j0.st (ev_neg (by rw [decide_eq_false hd]; simp) key2)))))⟩
    · exact ⟨[], false, by simp, ev_call rfl (ev_bind h2 (ev_bind h1 (ev_pos rfl (ev_call (specCount _) (ev_neg (by rw [decide_eq_false hc]; simp) (spec_ShareOut.j0.st (ev_pos rfl ev_now))))))), ev_bind h3 (ev_neg (by show ¬ leastSum l l.length < 0; omega) (ev_call (implCount _) (ev_neg (by rw [decide_eq_false hc]; simp) (impl_ShareOut.j0.st (ev_pos rfl ev_now)))))⟩

theorem leftBoth (b : Int) (l : List S44) (hf : Fits l) : ∃ r, Ev (fun k => spec_LeftOver.f k b l) r ∧ Ev (fun k => impl_LeftOver.f k b l) r := by
  obtain ⟨ys, ok, _, h1, h2⟩ := shareBoth b l hf
  obtain ⟨r, h3, h4⟩ := sumBoth ys
  unfold spec_LeftOver.f impl_LeftOver.f
  cases ok with
  | true => exact ⟨_, ev_bind h1 (ev_pos rfl (ev_bind h3 ev_now)), ev_bind h2 (ev_pos rfl (ev_bind h4 ev_now))⟩
  | false => exact ⟨-1, ev_bind h1 (ev_neg (by simp) ev_now), ev_bind h2 (ev_neg (by simp) ev_now)⟩
end Go.Proofs.Ytmbkgiagkhhifaa.PA
