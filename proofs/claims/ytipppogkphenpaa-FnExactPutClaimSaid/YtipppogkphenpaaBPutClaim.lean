/- What PutClaim answers: the reference's and the program's give one answer for every list of claims and every claim. No condition but that texts fit into memory and the list is short. -/
import Derived.Test.YtipppogkphenpaaBClaimsBase
import Derived.Test.YtipppogkphenpaaPBx0
import Derived.Test.YtipppogkphenpaaPBx3
import Derived.Test.YtipppogkphenpaaPBx5
namespace Go.Proofs.Ytipppogkphenpaa.PB
open Go.RowKit Go.Proofs.YtipppogkphenpaaW.PrintWords Go.Proofs.YtipppogkphenpaaW.PrintLast Go.Proofs.YtipppogkphenpaaW.PrintMore Go.Proofs.Ytipppogkphenpaa.Aid
set_option linter.unusedVariables false

theorem snoc_take (l : List S43) (i : Nat) (hi : i < l.length) : l.take i ++ [(⟨(rd_T43 l (i : Int)).f0, (rd_T43 l (i : Int)).f1, (rd_T43 l (i : Int)).f2, (rd_T43 l (i : Int)).f3⟩ : S43)] = l.take (i + 1) := by
  rw [List.take_add_one, List.getElem?_eq_getElem hi, rd_mem l i hi]
  rfl

theorem copyClaims (l : List S43) (hl : l.length ≤ 1048577) : Ev (fun k => spec_l13Copy.f k l) l := by
  unfold spec_l13Copy.f
  have := ev_up (n := l.length) (fun i => Ev (fun k => spec_l13Copy.l0 k l (l.take i) (i : Int)) l)
    (by
      refine spec_l13Copy.l0.st (ev_neg (by omega) ?_)
      rw [List.take_length]
      exact ev_now)
    (by
      intro i hi H
      refine spec_l13Copy.l0.st (ev_pos (by omega) (ev_pos (by omega) (ev_pos (by rw [List.length_take]; omega) ?_)))
      rw [snoc_take l i hi, w64 (by omega) (by omega)]
      exact H) 0 (Nat.zero_le _)
  exact this

/-- The list with each claim of c's name turned into c. -/
def putAll (c : S43) (l : List S43) : List S43 := l.map fun x => if x.f0.toList = c.f0.toList then c else x

/-- The reference's loop: the first i places are done. -/
theorem specPut_l0 (l : List S43) (hl : l.length ≤ 1048577) (c : S43) (r : List S43 × Bool)
    (hr : Ev (fun k => spec_PutClaim.j1 k l (if l.any (fun x => decide (x.f0.toList = c.f0.toList)) = true then putAll c l else l ++ [c])) r) :
    Ev (fun k => spec_PutClaim.l0 k l l false 0 c.f0 c.f1 c.f2 c.f3) r := by
  have key : ∀ d i, i + d = l.length → Ev (fun k => spec_PutClaim.l0 k l ((putAll c l).take i ++ l.drop i) ((l.take i).any fun x => decide (x.f0.toList = c.f0.toList)) (i : Int) c.f0 c.f1 c.f2 c.f3) r := by
    intro d
    induction d with
    | zero =>
      intro i hi
      have hpl : (putAll c l).length = l.length := by simp [putAll]
      obtain rfl : i = l.length := by omega
      rw [List.drop_length, List.append_nil, List.take_of_length_le (by omega), List.take_of_length_le (Nat.le_refl _)]
      refine spec_PutClaim.l0.st (ev_neg (by omega) ?_)
      cases hany : l.any fun x => decide (x.f0.toList = c.f0.toList) with
      | true =>
        rw [hany, if_pos rfl] at hr
        exact ev_pos rfl hr
      | false =>
        rw [hany, if_neg (by simp)] at hr
        have : putAll c l = l := by
          unfold putAll
          rw [List.any_eq_false] at hany
          conv => rhs; rw [← List.map_id l]
          exact List.map_congr_left fun x hx => if_neg (by simpa using hany x hx)
        rw [this]
        exact ev_neg (by simp) (ev_pos (by omega) hr)
    | succ d ih =>
      intro i hi
      have hpl : (putAll c l).length = l.length := by simp [putAll]
      have hil : i < l.length := by omega
      have hlen : ((putAll c l).take i ++ l.drop i).length = l.length := by rw [List.length_append, List.length_take, List.length_drop]; omega
      have hat : rd_T43 ((putAll c l).take i ++ l.drop i) (i : Int) = l[i] := by
        rw [rd_mem _ i (by omega), List.getElem_append_right (by rw [List.length_take]; omega), List.getElem_drop]
        congr 1
        rw [List.length_take]
        omega
      have hn := ih (i + 1) (by omega)
      have hta : (l.take (i + 1)).any (fun x => decide (x.f0.toList = c.f0.toList)) = ((l.take i).any (fun x => decide (x.f0.toList = c.f0.toList)) || decide (l[i].f0.toList = c.f0.toList)) := by
        rw [List.take_add_one, List.getElem?_eq_getElem hil, List.any_append]
        simp
      have hpt : (putAll c l).take (i + 1) = (putAll c l).take i ++ [if l[i].f0.toList = c.f0.toList then c else l[i]] := by
        rw [List.take_add_one, List.getElem?_eq_getElem (by omega)]
        simp [putAll]
      have hdr : l.drop i = l[i] :: l.drop (i + 1) := List.drop_eq_getElem_cons hil
      refine spec_PutClaim.l0.st (ev_pos (by omega) (ev_pos (by omega) ?_))
      rw [hat, w64 (by omega) (by omega)]
      by_cases hs : l[i].f0.toList = c.f0.toList
      · refine ev_pos hs ?_
        have e1 : ((putAll c l).take i ++ l.drop i).set (i : Int).toNat (⟨c.f0, c.f1, c.f2, c.f3⟩ : S43) = (putAll c l).take (i + 1) ++ l.drop (i + 1) := by
          rw [hpt, if_pos hs, hdr, Int.toNat_natCast, List.set_append_right _ _ (by rw [List.length_take]; omega)]
          have : i - ((putAll c l).take i).length = 0 := by rw [List.length_take]; omega
          rw [this, List.set_cons_zero, List.append_assoc]
          rfl
        rw [e1]
        rw [hta, decide_eq_true hs, Bool.or_true] at hn
        exact hn
      · refine ev_neg hs ?_
        have e1 : (putAll c l).take i ++ l.drop i = (putAll c l).take (i + 1) ++ l.drop (i + 1) := by
          rw [hpt, if_neg hs, hdr]
          simp
        rw [hta, decide_eq_false hs, Bool.or_false] at hn
        rw [e1]
        exact hn
  exact key l.length 0 (by omega)

/-- Where a name stands once, the two ways of putting are one. -/
theorem place_none (nm : ByteArray) : ∀ (l : List S43) (i : Int), 0 ≤ i → (placeOf nm l i = -1 ∧ (l.any fun x => decide (x.f0.toList = nm.toList)) = false) ∨ (i ≤ placeOf nm l i ∧ placeOf nm l i < i + (l.length : Int) ∧ (l.any fun x => decide (x.f0.toList = nm.toList)) = true) := by
  intro l
  induction l with
  | nil => intro i h; exact .inl ⟨rfl, rfl⟩
  | cons x t ih =>
    intro i h
    simp only [placeOf, List.any_cons, List.length_cons]
    by_cases hs : x.f0.toList = nm.toList
    · rw [if_pos hs, decide_eq_true hs]
      exact .inr ⟨by omega, by omega, rfl⟩
    · rw [if_neg hs, decide_eq_false hs, Bool.false_or]
      rcases ih (i + 1) (by omega) with ⟨h1, h2⟩ | ⟨h1, h2, h3⟩
      · exact .inl ⟨h1, h2⟩
      · exact .inr ⟨by omega, by omega, h3⟩

theorem put_once (l : List S43) (hok : claimsOk l = true) (c : S43) (m : Nat) (hm : m < l.length) (hp : placeOf c.f0 l 0 = (m : Int)) (hn : (rd_T43 l (m : Int)).f0.toList = c.f0.toList) : l.set m c = putAll c l := by
  simp only [claimsOk, Bool.and_eq_true, List.all_eq_true, List.mem_range] at hok
  have uniq : ∀ i j, i < j → j < l.length → (rd_T43 l (i : Int)).f0.toList ≠ (rd_T43 l (j : Int)).f0.toList := by
    intro i j hij hj
    have := hok.2 j hj
    simp only [placeOk, Bool.and_eq_true, List.all_eq_true, List.mem_range] at this
    have := this.2 i hij
    simpa only [sameName, Bool.not_eq_true', decide_eq_false_iff_not] using this
  apply List.ext_getElem
  · simp [putAll]
  · intro i h1 h2
    have hi : i < l.length := by simpa using h1
    rw [List.getElem_set]
    simp only [putAll, List.getElem_map]
    by_cases him : m = i
    · subst him
      rw [rd_mem l m hm] at hn
      rw [if_pos rfl, if_pos hn]
    · rw [if_neg him, if_neg]
      intro hs
      rcases Nat.lt_or_gt_of_ne him with h | h
      · have := uniq m i h hi
        rw [hn, rd_mem l i hi, hs] at this
        exact this rfl
      · have := uniq i m h hm
        rw [hn, rd_mem l i hi, hs] at this
        exact this rfl

/-- The place that is found bears the name. -/
theorem place_named (nm : ByteArray) : ∀ (d j : Nat) (l : List S43) (m : Nat), j + d = l.length → placeOf nm (l.drop j) (j : Int) = (m : Int) → m < l.length ∧ (rd_T43 l (m : Int)).f0.toList = nm.toList := by
  intro d
  induction d with
  | zero =>
    intro j l m hj hp
    rw [List.drop_eq_nil_iff.2 (by omega)] at hp
    simp only [placeOf] at hp
    omega
  | succ d ih =>
    intro j l m hj hp
    have hjl : j < l.length := by omega
    rw [List.drop_eq_getElem_cons hjl] at hp
    simp only [placeOf] at hp
    by_cases hs : l[j].f0.toList = nm.toList
    · rw [if_pos hs] at hp
      obtain rfl : j = m := by omega
      exact ⟨hjl, by rw [rd_mem l j hjl]; exact hs⟩
    · rw [if_neg hs, show ((j : Int) + 1) = ((j + 1 : Nat) : Int) by omega] at hp
      exact ih (j + 1) l m (by omega) hp

theorem cloneClaims (l : List S43) (hl : l.length ≤ 1048577) : slices_Clone_Claim.f l = some l := by
  unfold slices_Clone_Claim.f
  rw [if_pos (by omega)]

theorem putBoth (l : List S43) (c : S43) (hl : l.length ≤ 1048576) (hf : Fits l) (hc : c.f0.size ≤ 9223372036854775807) : ∃ (ys : List S43) (ok : Bool), ys.length ≤ 1048577 ∧ Ev (fun k => spec_PutClaim.f k l c.f0 c.f1 c.f2 c.f3) (ys, ok) ∧ Ev (fun k => impl_PutClaim.f k l c.f0 c.f1 c.f2 c.f3) (ys, ok) := by
  unfold spec_PutClaim.f impl_PutClaim.f
  have hcopy := copyClaims l (by omega)
  have hclone := cloneClaims l (by omega)
  have hs := specClaims l hf
  have hi := implClaims l hf
  cases hok : claimsOk l with
  | false =>
    rw [hok] at hs hi
    exact ⟨l, false, by omega, ev_bind hcopy (specPut_l0 l (by omega) c _ (spec_PutClaim.j1.st (ev_bind hs (ev_neg (by simp) (ev_bind hcopy ev_now))))), ev_bind hi (ev_neg (by simp) (ev_call hclone ev_now))⟩
  | true =>
    rw [hok] at hs hi
    -- what is put, and what both say of it
    have fin : ∀ zs : List S43, zs.length ≤ 1048577 → Fits zs → (if l.any (fun x => decide (x.f0.toList = c.f0.toList)) = true then putAll c l else l ++ [c]) = zs →
        ∃ (ys : List S43) (ok : Bool), ys.length ≤ 1048577 ∧ Ev (fun k => (spec_l13Copy.f k l).bind fun t257 => (spec_PutClaim.l0 k l t257 false 0 c.f0 c.f1 c.f2 c.f3)) (ys, ok) ∧ Ev (fun k => impl_PutClaim.j0 k l zs) (ys, ok) := by
      intro zs hz hfz he
      have hs2 := specClaims zs hfz
      have hi2 := implClaims zs hfz
      cases hok2 : claimsOk zs with
      | true =>
        rw [hok2] at hs2 hi2
        refine ⟨zs, true, hz, ev_bind hcopy (specPut_l0 l (by omega) c _ ?_), impl_PutClaim.j0.st (ev_bind hi2 (ev_pos rfl ev_now))⟩
        rw [he]
        exact spec_PutClaim.j1.st (ev_bind hs (ev_pos rfl (ev_bind hs2 (ev_pos rfl ev_now))))
      | false =>
        rw [hok2] at hs2 hi2
        refine ⟨l, false, by omega, ev_bind hcopy (specPut_l0 l (by omega) c _ ?_), impl_PutClaim.j0.st (ev_bind hi2 (ev_neg (by simp) (ev_call hclone ev_now)))⟩
        rw [he]
        exact spec_PutClaim.j1.st (ev_bind hs (ev_pos rfl (ev_bind hs2 (ev_neg (by simp) (ev_bind hcopy ev_now)))))
    rcases place_none c.f0 l 0 (Int.le_refl _) with ⟨h1, h2⟩ | ⟨h1, h2, h3⟩
    · obtain ⟨ys, ok, g0, g1, g2⟩ := fin (l ++ [c]) (by rw [List.length_append]; simp; omega) (by
        intro x hx
        rcases List.mem_append.1 hx with hx | hx
        · exact hf x hx
        · simp at hx; subst hx; exact hc) (by rw [h2, if_neg (by simp)])
      exact ⟨ys, ok, g0, g1, ev_bind hi (ev_pos rfl (ev_call hclone (ev_call rfl (ev_neg (by rw [h1]; omega) (ev_pos (by omega) g2)))))⟩
    · obtain ⟨m, hm⟩ : ∃ m : Nat, placeOf c.f0 l 0 = (m : Int) := ⟨(placeOf c.f0 l 0).toNat, by omega⟩
      obtain ⟨hml, hmn⟩ := place_named c.f0 l.length 0 l m (by omega) hm
      obtain ⟨ys, ok, g0, g1, g2⟩ := fin (putAll c l) (by simp [putAll]; omega) (by
        intro x hx
        obtain ⟨y, hy, rfl⟩ := List.mem_map.1 hx
        by_cases hs : y.f0.toList = c.f0.toList
        · rw [if_pos hs]; exact hc
        · rw [if_neg hs]; exact hf y hy) (by rw [h3, if_pos rfl])
      refine ⟨ys, ok, g0, g1, ev_bind hi (ev_pos rfl (ev_call hclone (ev_call (b := (m : Int)) (congrArg some hm) ?_)))⟩
      refine ev_pos (by omega) (ev_pos (by omega) (ev_pos (by omega) ?_))
      rw [Int.toNat_natCast, put_once l hok c m hml hm hmn]
      exact g2
end Go.Proofs.Ytipppogkphenpaa.PB
