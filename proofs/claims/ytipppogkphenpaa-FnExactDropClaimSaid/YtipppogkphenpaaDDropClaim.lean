/- What DropClaim answers: the reference's and the program's give one answer for every list of claims and every name. No condition but that texts fit into memory and the list is short. -/
import Derived.Test.YtipppogkphenpaaDClaimsBase
import Derived.Test.YtipppogkphenpaaPDx0
import Derived.Test.YtipppogkphenpaaPDx1
import Derived.Test.YtipppogkphenpaaPDx2
namespace Go.Proofs.Ytipppogkphenpaa.PD
open Go.RowKit Go.Proofs.YtipppogkphenpaaW.PrintWords Go.Proofs.YtipppogkphenpaaW.PrintLast Go.Proofs.YtipppogkphenpaaW.PrintMore Go.Proofs.Ytipppogkphenpaa.Aid
set_option linter.unusedVariables false

theorem snoc_take (l : List S43) (i : Nat) (hi : i < l.length) : l.take i ++ [(⟨(rd_T43 l (i : Int)).f0, (rd_T43 l (i : Int)).f1, (rd_T43 l (i : Int)).f2, (rd_T43 l (i : Int)).f3⟩ : S43)] = l.take (i + 1) := by
  rw [List.take_add_one, List.getElem?_eq_getElem hi, rd_mem l i hi]
  rfl

theorem copyClaims (l : List S43) (hl : l.length ≤ 1048577) : Ev (fun k => spec_l13Copy.f k l) l := by
  unfold spec_l13Copy.f
  have := ev_up (n := l.length) (fun i => Ev (fun k => spec_l13Copy.l0 k l (l.take i) (i : Int)) l)
    (by
      refine spec_l13Copy.l0.st (ev_neg (by omega) ?_)
      rw [List.take_length]
      exact ev_now)
    (by
      intro i hi H
      refine spec_l13Copy.l0.st (ev_pos (by omega) (ev_pos (by omega) (ev_pos (by rw [List.length_take]; omega) ?_)))
      rw [snoc_take l i hi, w64 (by omega) (by omega)]
      exact H) 0 (Nat.zero_le _)
  exact this

/-- Where a name stands once, the two ways of putting are one. -/
theorem place_none (nm : ByteArray) : ∀ (l : List S43) (i : Int), 0 ≤ i → (placeOf nm l i = -1 ∧ (l.any fun x => decide (x.f0.toList = nm.toList)) = false) ∨ (i ≤ placeOf nm l i ∧ placeOf nm l i < i + (l.length : Int) ∧ (l.any fun x => decide (x.f0.toList = nm.toList)) = true) := by
  intro l
  induction l with
  | nil => intro i h; exact .inl ⟨rfl, rfl⟩
  | cons x t ih =>
    intro i h
    simp only [placeOf, List.any_cons, List.length_cons]
    by_cases hs : x.f0.toList = nm.toList
    · rw [if_pos hs, decide_eq_true hs]
      exact .inr ⟨by omega, by omega, rfl⟩
    · rw [if_neg hs, decide_eq_false hs, Bool.false_or]
      rcases ih (i + 1) (by omega) with ⟨h1, h2⟩ | ⟨h1, h2, h3⟩
      · exact .inl ⟨h1, h2⟩
      · exact .inr ⟨by omega, by omega, h3⟩

/-- The place that is found bears the name. -/
theorem place_named (nm : ByteArray) : ∀ (d j : Nat) (l : List S43) (m : Nat), j + d = l.length → placeOf nm (l.drop j) (j : Int) = (m : Int) → m < l.length ∧ (rd_T43 l (m : Int)).f0.toList = nm.toList := by
  intro d
  induction d with
  | zero =>
    intro j l m hj hp
    rw [List.drop_eq_nil_iff.2 (by omega)] at hp
    simp only [placeOf] at hp
    omega
  | succ d ih =>
    intro j l m hj hp
    have hjl : j < l.length := by omega
    rw [List.drop_eq_getElem_cons hjl] at hp
    simp only [placeOf] at hp
    by_cases hs : l[j].f0.toList = nm.toList
    · rw [if_pos hs] at hp
      obtain rfl : j = m := by omega
      exact ⟨hjl, by rw [rd_mem l j hjl]; exact hs⟩
    · rw [if_neg hs, show ((j : Int) + 1) = ((j + 1 : Nat) : Int) by omega] at hp
      exact ih (j + 1) l m (by omega) hp

theorem cloneClaims (l : List S43) (hl : l.length ≤ 1048577) : slices_Clone_Claim.f l = some l := by
  unfold slices_Clone_Claim.f
  rw [if_pos (by omega)]

/-- What is kept. -/
def keeps (nm : ByteArray) (x : S43) : Bool := !decide (x.f0.toList = nm.toList)

theorem specDrop_l0 (l : List S43) (hl : l.length ≤ 1048577) (nm : ByteArray) (r : List S43 × Bool)
    (hr : Ev (fun k => (spec_ClaimsOk.f k l).bind fun t160 => (if t160 = true then (if ((l.filter (keeps nm)).length : Int) = (l.length : Int) then ((spec_l13Copy.f k l).bind fun t161 => (some (t161, false))) else (some (l.filter (keeps nm), true))) else ((spec_l13Copy.f k l).bind fun t164 => (some (t164, false))))) r) :
    Ev (fun k => spec_DropClaim.l0 k l nm [] 0) r := by
  have := ev_up (n := l.length) (fun i => Ev (fun k => spec_DropClaim.l0 k l nm ((l.take i).filter (keeps nm)) (i : Int)) r)
    (by
      rw [List.take_length]
      exact spec_DropClaim.l0.st (ev_neg (by omega) hr))
    (by
      intro i hi H
      have hfl : ((l.take i).filter (keeps nm)).length ≤ i := by
        have := List.length_filter_le (keeps nm) (l.take i)
        rw [List.length_take] at this
        omega
      have ht : (l.take (i + 1)).filter (keeps nm) = (l.take i).filter (keeps nm) ++ (if keeps nm l[i] = true then [l[i]] else []) := by
        rw [List.take_add_one, List.getElem?_eq_getElem hi, List.filter_append]
        congr 1
        simp only [Option.toList_some, List.filter_cons, List.filter_nil]
      rw [ht] at H
      refine spec_DropClaim.l0.st (ev_pos (by omega) (ev_pos (by omega) ?_))
      rw [rd_mem l i hi, w64 (by omega) (by omega)]
      by_cases hs : l[i].f0.toList = nm.toList
      · rw [if_neg (by simp [keeps, hs]), List.append_nil] at H
        exact ev_pos hs H
      · rw [if_pos (by simp [keeps, hs])] at H
        exact ev_neg hs (ev_pos (by omega) H)) 0 (Nat.zero_le _)
  exact this

theorem keep_all (nm : ByteArray) (l : List S43) (h : (l.any fun x => decide (x.f0.toList = nm.toList)) = false) : l.filter (keeps nm) = l := by
  rw [List.filter_eq_self]
  intro x hx
  rw [List.any_eq_false] at h
  have := h x hx
  simp only [keeps]
  simpa using this

theorem keep_but (nm : ByteArray) (l : List S43) (hok : claimsOk l = true) (m : Nat) (hm : m < l.length) (hn : (rd_T43 l (m : Int)).f0.toList = nm.toList) : l.filter (keeps nm) = l.eraseIdx m := by
  simp only [claimsOk, Bool.and_eq_true, List.all_eq_true, List.mem_range] at hok
  have uniq : ∀ i j, i < j → j < l.length → (rd_T43 l (i : Int)).f0.toList ≠ (rd_T43 l (j : Int)).f0.toList := by
    intro i j hij hj
    have := hok.2 j hj
    simp only [placeOk, Bool.and_eq_true, List.all_eq_true, List.mem_range] at this
    have := this.2 i hij
    simpa only [sameName, Bool.not_eq_true', decide_eq_false_iff_not] using this
  have other : ∀ i (hi : i < l.length), i ≠ m → keeps nm l[i] = true := by
    intro i hi hne
    have h1 : l[i].f0.toList ≠ nm.toList := by
      rw [← hn, ← rd_mem l i hi]
      rcases Nat.lt_or_gt_of_ne hne with h | h
      · exact uniq i m h hm
      · exact fun e => uniq m i h hi e.symm
    simp [keeps, h1]
  have e : l = l.take m ++ l[m] :: l.drop (m + 1) := by rw [← List.drop_eq_getElem_cons hm, List.take_append_drop]
  rw [List.eraseIdx_eq_take_drop_succ]
  conv => lhs; rw [e]
  rw [List.filter_append, List.filter_cons, if_neg (by rw [rd_mem l m hm] at hn; simp [keeps, hn])]
  congr 1
  · rw [List.filter_eq_self]
    intro x hx
    obtain ⟨i, hi, rfl⟩ := List.getElem_of_mem hx
    rw [List.length_take] at hi
    rw [List.getElem_take]
    exact other i (by omega) (by omega)
  · rw [List.filter_eq_self]
    intro x hx
    obtain ⟨i, hi, rfl⟩ := List.getElem_of_mem hx
    rw [List.length_drop] at hi
    rw [List.getElem_drop]
    exact other (m + 1 + i) (by omega) (by omega)

theorem dropBoth (l : List S43) (nm : ByteArray) (hl : l.length ≤ 1048576) (hf : Fits l) : ∃ (ys : List S43) (ok : Bool), ys.length ≤ 1048577 ∧ Ev (fun k => spec_DropClaim.f k l nm) (ys, ok) ∧ Ev (fun k => impl_DropClaim.f k l nm) (ys, ok) := by
  unfold spec_DropClaim.f impl_DropClaim.f
  have hcopy := copyClaims l (by omega)
  have hclone := cloneClaims l (by omega)
  have hs := specClaims l hf
  have hi := implClaims l hf
  cases hok : claimsOk l with
  | false =>
    rw [hok] at hs hi
    exact ⟨l, false, by omega, specDrop_l0 l (by omega) nm _ (ev_bind hs (ev_neg (by simp) (ev_bind hcopy ev_now))), ev_call hclone (ev_call rfl (ev_bind hi (ev_neg (by simp) ev_now)))⟩
  | true =>
    rw [hok] at hs hi
    rcases place_none nm l 0 (Int.le_refl _) with ⟨h1, h2⟩ | ⟨h1, h2, h3⟩
    · refine ⟨l, false, by omega, specDrop_l0 l (by omega) nm _ (ev_bind hs (ev_pos rfl ?_)), ev_call hclone (ev_call (b := -1) (congrArg some h1) (ev_bind hi (ev_pos rfl (ev_pos (by omega) ev_now))))⟩
      rw [keep_all nm l h2]
      exact ev_pos rfl (ev_bind hcopy ev_now)
    · obtain ⟨m, hm⟩ : ∃ m : Nat, placeOf nm l 0 = (m : Int) := ⟨(placeOf nm l 0).toNat, by omega⟩
      obtain ⟨hml, hmn⟩ := place_named nm l.length 0 l m (by omega) hm
      have hle : (l.eraseIdx m).length = l.length - 1 := by rw [List.length_eraseIdx, if_pos hml]
      refine ⟨l.eraseIdx m, true, by omega, specDrop_l0 l (by omega) nm _ (ev_bind hs (ev_pos rfl ?_)), ev_call hclone (ev_call (b := (m : Int)) (congrArg some hm) (ev_bind hi (ev_pos rfl (ev_neg (by omega) (ev_call (b := l.eraseIdx m) ?_ ev_now)))))⟩
      · rw [keep_but nm l hok m hml hmn]
        exact ev_neg (by omega) ev_now
      · unfold slices_Delete_Claim.f
        rw [w64 (by omega) (by omega), if_pos ⟨rfl, by omega, by omega⟩, Int.toNat_natCast]
end Go.Proofs.Ytipppogkphenpaa.PD
