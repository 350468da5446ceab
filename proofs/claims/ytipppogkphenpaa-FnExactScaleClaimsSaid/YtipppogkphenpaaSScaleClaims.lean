/- What ScaleClaims answers: the reference's and the program's give one answer for every list of claims and every two numbers. No condition but that texts fit into memory and the list is short. -/
import Derived.Test.YtipppogkphenpaaSClaimsBase
import Derived.Test.YtipppogkphenpaaPSx0
import Derived.Test.YtipppogkphenpaaPSx2
namespace Go.Proofs.Ytipppogkphenpaa.PS
open Go.RowKit Go.Proofs.YtipppogkphenpaaW.PrintWords Go.Proofs.YtipppogkphenpaaW.PrintLast Go.Proofs.YtipppogkphenpaaW.PrintMore Go.Proofs.Ytipppogkphenpaa.Aid
set_option linter.unusedVariables false

theorem snoc_take (l : List S43) (i : Nat) (hi : i < l.length) : l.take i ++ [(⟨(rd_T43 l (i : Int)).f0, (rd_T43 l (i : Int)).f1, (rd_T43 l (i : Int)).f2, (rd_T43 l (i : Int)).f3⟩ : S43)] = l.take (i + 1) := by
  rw [List.take_add_one, List.getElem?_eq_getElem hi, rd_mem l i hi]
  rfl

theorem copyClaims (l : List S43) (hl : l.length ≤ 1048577) : Ev (fun k => spec_l13Copy.f k l) l := by
  unfold spec_l13Copy.f
  have := ev_up (n := l.length) (fun i => Ev (fun k => spec_l13Copy.l0 k l (l.take i) (i : Int)) l)
    (by
      refine spec_l13Copy.l0.st (ev_neg (by omega) ?_)
      rw [List.take_length]
      exact ev_now)
    (by
      intro i hi H
      refine spec_l13Copy.l0.st (ev_pos (by omega) (ev_pos (by omega) (ev_pos (by rw [List.length_take]; omega) ?_)))
      rw [snoc_take l i hi, w64 (by omega) (by omega)]
      exact H) 0 (Nat.zero_le _)
  exact this

/-- A quotient, rounded up; a product over a number, cut at the greatest value. -/
def ceilV (x c : Int) : Int := if Int.tmod x c > 0 then wrap64 (wrap64 (Int.tdiv x c) + 1) else wrap64 (Int.tdiv x c)
def mulQ (a b c : Int) : Int × Bool := if 0 ≤ a ∧ a ≤ 1000000000 then (if ceilV (wrap64 (a * b)) c > 1000000000 then (1000000000, false) else (ceilV (wrap64 (a * b)) c, true)) else (0, false)

theorem specCeil (x c : Int) (hc : 1 ≤ c) : spec_CeilDiv.f x c = some (ceilV x c) := by
  unfold spec_CeilDiv.f ceilV
  rw [if_neg (by omega), if_neg (by omega)]
  by_cases h : Int.tmod x c > 0
  · rw [if_pos h, if_pos h]
  · rw [if_neg h, if_neg h]
theorem implCeil (x c : Int) (hc : 1 ≤ c) : impl_CeilDiv.f x c = some (ceilV x c) := by
  unfold impl_CeilDiv.f ceilV
  rw [if_neg (by omega), if_neg (by omega)]
  by_cases h : Int.tmod x c > 0
  · rw [if_pos h, if_pos h]
  · rw [if_neg h, if_neg h]
theorem specFloor (x c : Int) (hc : 1 ≤ c) : ∃ v, spec_FloorDiv.f x c = some v := by
  unfold spec_FloorDiv.f
  rw [if_neg (by omega), if_neg (by omega)]
  by_cases h : Int.tmod x c < 0
  · exact ⟨_, if_pos h⟩
  · exact ⟨_, if_neg h⟩
theorem implFloor (x c : Int) (hc : 1 ≤ c) : ∃ v, impl_FloorDiv.f x c = some v := by
  unfold impl_FloorDiv.f
  rw [if_neg (by omega), if_neg (by omega)]
  by_cases h : Int.tmod x c < 0
  · exact ⟨_, if_pos h⟩
  · exact ⟨_, if_neg h⟩
theorem specAmt (x : Int) : spec_l01Amt.f x = some (decide (0 ≤ x ∧ x ≤ 1000000000)) := by
  unfold spec_l01Amt.f
  rw [specIn]
  rfl
theorem implSize (x : Int) : impl_isSize.f x = some (decide (0 ≤ x ∧ x ≤ 1000000000)) := by
  unfold impl_isSize.f
  rw [implIn]
  rfl
theorem implPart (x : Int) : impl_isPart.f x = some (decide (1 ≤ x ∧ x ≤ 1000000000)) := by
  unfold impl_isPart.f
  rw [implIn]
  rfl

theorem specMul (a b c : Int) (hb : 0 ≤ b ∧ b ≤ 1000000000) (hc : 1 ≤ c ∧ c ≤ 1000000000) : Ev (fun k => spec_MulDiv.f k a b c true) (mulQ a b c) := by
  unfold spec_MulDiv.f mulQ
  refine ev_call (specAmt a) ?_
  by_cases ha : 0 ≤ a ∧ a ≤ 1000000000
  · rw [if_pos ha, decide_eq_true ha]
    refine ev_pos rfl (ev_call (specAmt b) ?_)
    rw [decide_eq_true hb]
    refine ev_pos rfl (ev_call (specIn c 1 1000000000) ?_)
    rw [decide_eq_true hc]
    obtain ⟨v, hv⟩ := specFloor (wrap64 (a * b)) c hc.1
    refine spec_MulDiv.j0.st (ev_neg (by simp) (ev_call hv (ev_pos rfl (ev_call (specCeil _ c hc.1) ?_))))
    by_cases h : ceilV (wrap64 (a * b)) c > 1000000000
    · rw [if_pos h, if_pos h]
      exact ev_now
    · rw [if_neg h, if_neg h]
      exact ev_now
  · rw [if_neg ha, decide_eq_false ha]
    exact ev_neg (by simp) (spec_MulDiv.j0.st (ev_pos rfl ev_now))
theorem implMul (a b c : Int) (hb : 0 ≤ b ∧ b ≤ 1000000000) (hc : 1 ≤ c ∧ c ≤ 1000000000) : Ev (fun k => impl_MulDiv.f k a b c true) (mulQ a b c) := by
  unfold impl_MulDiv.f mulQ
  refine ev_call (implSize a) ?_
  by_cases ha : 0 ≤ a ∧ a ≤ 1000000000
  · rw [if_pos ha, decide_eq_true ha]
    refine ev_pos rfl (ev_call (implSize b) ?_)
    rw [decide_eq_true hb]
    refine ev_pos rfl (ev_call (implPart c) ?_)
    rw [decide_eq_true hc]
    obtain ⟨v, hv⟩ := implFloor (wrap64 (a * b)) c hc.1
    refine impl_MulDiv.j0.st (ev_neg (by simp) (ev_call hv (ev_pos rfl (ev_call (implCeil _ c hc.1) ?_))))
    by_cases h : ceilV (wrap64 (a * b)) c > 1000000000
    · rw [if_pos h, if_pos h]
      exact ev_now
    · rw [if_neg h, if_neg h]
      exact ev_now
  · rw [if_neg ha, decide_eq_false ha]
    exact ev_neg (by simp) (impl_MulDiv.j0.st (ev_pos rfl ev_now))

/-- One claim, scaled. -/
def scal (b c : Int) (x : S43) : S43 := ⟨x.f0, mx (mn (mulQ x.f1 b c).1 1000) x.f2, x.f2, x.f3⟩

theorem cutIs (q f : Int) (hf : f ≤ 1000) : spec_l06Cut.f q f 1000 = some (mx (mn q 1000) f) := by
  unfold spec_l06Cut.f
  rcases mn_cases q 1000 with ⟨h1, h2⟩ | ⟨h1, h2⟩
  · rw [h2]
    rcases mx_cases 1000 f with ⟨h3, h4⟩ | ⟨h3, h4⟩
    · omega
    · rw [h4, if_neg (by omega), if_pos (by omega)]
  · rw [h2]
    rcases mx_cases q f with ⟨h3, h4⟩ | ⟨h3, h4⟩
    · rw [h4, if_pos h3]
    · rw [h4, if_neg (by omega), if_neg (by omega)]

theorem least_le (l : List S43) (hok : claimsOk l = true) (i : Nat) (hi : i < l.length) : l[i].f2 ≤ 1000 := by
  simp only [claimsOk, Bool.and_eq_true, List.all_eq_true, List.mem_range] at hok
  have h := hok.2 i hi
  simp only [placeOk, okAt, claimOk, Bool.and_eq_true, decide_eq_true_eq] at h
  rw [rd_mem l i hi] at h
  have := h.1.2
  omega

theorem specScale_l0 (l : List S43) (hl : l.length ≤ 1048577) (hok : claimsOk l = true) (b c : Int) (hb : 0 ≤ b ∧ b ≤ 1000) (hc : 1 ≤ c ∧ c ≤ 1000) : Ev (fun k => spec_ScaleClaims.l0 k b c l 0) (l.map (scal b c), true) := by
  have hml : (l.map (scal b c)).length = l.length := List.length_map ..
  have := ev_up (n := l.length) (fun i => Ev (fun k => spec_ScaleClaims.l0 k b c ((l.map (scal b c)).take i ++ l.drop i) (i : Int)) (l.map (scal b c), true))
    (by
      rw [List.drop_length, List.append_nil, List.take_of_length_le (by omega)]
      exact spec_ScaleClaims.l0.st (ev_neg (by omega) ev_now))
    (by
      intro i hi H
      have hlen : ((l.map (scal b c)).take i ++ l.drop i).length = l.length := by rw [List.length_append, List.length_take, List.length_drop]; omega
      have hat : rd_T43 ((l.map (scal b c)).take i ++ l.drop i) (i : Int) = l[i] := by
        rw [rd_mem _ i (by omega), List.getElem_append_right (by rw [List.length_take]; omega), List.getElem_drop]
        congr 1
        rw [List.length_take]
        omega
      have e1 : ((l.map (scal b c)).take i ++ l.drop i).set (i : Int).toNat (scal b c l[i]) = (l.map (scal b c)).take (i + 1) ++ l.drop (i + 1) := by
        rw [List.take_add_one, List.getElem?_eq_getElem (by omega), List.drop_eq_getElem_cons hi, Int.toNat_natCast, List.set_append_right _ _ (by rw [List.length_take]; omega)]
        have : i - ((l.map (scal b c)).take i).length = 0 := by rw [List.length_take]; omega
        rw [this, List.set_cons_zero, List.append_assoc]
        simp
      refine spec_ScaleClaims.l0.st (ev_pos (by omega) (ev_pos (by omega) ?_))
      rw [hat, w64 (by omega) (by omega)]
      refine ev_bind (specMul _ b c ⟨hb.1, by omega⟩ ⟨hc.1, by omega⟩) (ev_call (cutIs _ _ (least_le l hok i hi)) ?_)
      change Ev (fun k => spec_ScaleClaims.l0 k b c (((l.map (scal b c)).take i ++ l.drop i).set (i : Int).toNat (scal b c l[i])) ((i : Int) + 1)) _
      rw [e1]
      exact H) 0 (Nat.zero_le _)
  exact this

theorem implScale_l0 (l : List S43) (hl : l.length ≤ 1048577) (b c : Int) (hb : 0 ≤ b ∧ b ≤ 1000) (hc : 1 ≤ c ∧ c ≤ 1000) : Ev (fun k => impl_ScaleClaims.l0 k b c ([] : List S43) l (l.length : Int) 0) (l.map (scal b c), true) := by
  have hml : (l.map (scal b c)).length = l.length := List.length_map ..
  have := ev_up (n := l.length) (fun i => Ev (fun k => impl_ScaleClaims.l0 k b c ((l.map (scal b c)).take i) l (l.length : Int) (i : Int)) (l.map (scal b c), true))
    (by
      rw [List.take_of_length_le (by omega)]
      exact impl_ScaleClaims.l0.st (ev_neg (by omega) ev_now))
    (by
      intro i hi H
      refine impl_ScaleClaims.l0.st (ev_pos (by omega) (ev_pos (by omega) (ev_pos (by omega) (ev_bind (implMul _ b c ⟨hb.1, by omega⟩ ⟨hc.1, by omega⟩) (ev_pos (by rw [List.length_take]; omega) ?_)))))
      rw [rd_mem l i hi, w64 (by omega) (by omega)]
      have e1 : (l.map (scal b c)).take i ++ [scal b c l[i]] = (l.map (scal b c)).take (i + 1) := by
        rw [List.take_add_one, List.getElem?_eq_getElem (by omega)]
        simp
      change Ev (fun k => impl_ScaleClaims.l0 k b c ((l.map (scal b c)).take i ++ [scal b c l[i]]) l (l.length : Int) ((i : Int) + 1)) _
      rw [e1]
      exact H) 0 (Nat.zero_le _)
  exact this

theorem scaleBoth (l : List S43) (a b : Int) (hl : l.length ≤ 1048577) (hf : Fits l) : ∃ (ys : List S43) (ok : Bool), ys.length ≤ 1048577 ∧ Ev (fun k => spec_ScaleClaims.f k l a b) (ys, ok) ∧ Ev (fun k => impl_ScaleClaims.f k l a b) (ys, ok) := by
  unfold spec_ScaleClaims.f impl_ScaleClaims.f
  have hs := specClaims l hf
  have hi := implClaims l hf
  have no : Ev (fun k => spec_ScaleClaims.j0 k l a b true) (([] : List S43), false) := spec_ScaleClaims.j0.st (ev_pos rfl ev_now)
  have ni : Ev (fun k => impl_ScaleClaims.j0 k l a b true) (([] : List S43), false) := impl_ScaleClaims.j0.st (ev_pos rfl ev_now)
  cases hok : claimsOk l with
  | false =>
    rw [hok] at hs hi
    exact ⟨[], false, by simp, ev_bind hs (ev_neg (by simp) no), ev_bind hi (ev_neg (by simp) ni)⟩
  | true =>
    rw [hok] at hs hi
    by_cases ha : 0 ≤ a ∧ a ≤ 1000
    · by_cases hb : 1 ≤ b ∧ b ≤ 1000
      · refine ⟨l.map (scal a b), true, by rw [List.length_map]; exact hl, ev_bind hs (ev_pos rfl (ev_call (specIn a 0 1000) ?_)), ev_bind hi (ev_pos rfl (ev_call (implIn a 0 1000) ?_))⟩
        · rw [decide_eq_true ha]
          refine ev_pos rfl (ev_call (specIn b 1 1000) ?_)
          rw [decide_eq_true hb]
          exact spec_ScaleClaims.j0.st (ev_neg (by simp) (ev_bind (copyClaims l hl) (specScale_l0 l hl hok a b ha hb)))
        · rw [decide_eq_true ha]
          refine ev_pos rfl (ev_call (implIn b 1 1000) ?_)
          rw [decide_eq_true hb]
          exact impl_ScaleClaims.j0.st (ev_neg (by simp) (implScale_l0 l hl a b ha hb))
      · refine ⟨[], false, by simp, ev_bind hs (ev_pos rfl (ev_call (specIn a 0 1000) ?_)), ev_bind hi (ev_pos rfl (ev_call (implIn a 0 1000) ?_))⟩
        · rw [decide_eq_true ha]
          refine ev_pos rfl (ev_call (specIn b 1 1000) ?_)
          rw [decide_eq_false hb]
          exact no
        · rw [decide_eq_true ha]
          refine ev_pos rfl (ev_call (implIn b 1 1000) ?_)
          rw [decide_eq_false hb]
          exact ni
    · refine ⟨[], false, by simp, ev_bind hs (ev_pos rfl (ev_call (specIn a 0 1000) ?_)), ev_bind hi (ev_pos rfl (ev_call (implIn a 0 1000) ?_))⟩
      · rw [decide_eq_false ha]
        exact ev_neg (by simp) no
      · rw [decide_eq_false ha]
        exact ev_neg (by simp) ni
end Go.Proofs.Ytipppogkphenpaa.PS
