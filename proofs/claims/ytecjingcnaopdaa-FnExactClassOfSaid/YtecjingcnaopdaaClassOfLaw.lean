/- The plain statement of FnExactClassOf: for every pod, store, metric, tick and rules that fit into memory the reference's ClassOf and the program's give one answer, and the store that was handed over is as it was. No further condition. -/
import Derived.Test.YtecjingcnaopdaaSeriesOf
import Derived.Test.YtecjingcnaopdaaPAx0
import Derived.Test.YtecjingcnaopdaaPAx12
import Derived.Test.YtecjingcnaopdaaPAx13
namespace Go.Proofs.Ytecjingcnaopdaa.PA
open Go.RowKit Go.Proofs.YtecjingcnaopdaaW.PrintWords Go.Proofs.YtecjingcnaopdaaW.PrintLast Go.Proofs.YtecjingcnaopdaaW.PrintMore Go.Proofs.Ytecjingcnaopdaa.Aid
set_option linter.unusedVariables false

def podOk (s : ByteArray) (born phase : Int) : Bool := nameOk s && (decide (0 ≤ born ∧ born ≤ 1000000000) && decide (0 ≤ phase ∧ phase ≤ 2))
theorem specPod (s : ByteArray) (b p : Int) (r : Bool) (hs : s.size ≤ 9223372036854775807) : Ev (fun k => spec_PodOk.f k s b p r) (podOk s b p) := by
  unfold spec_PodOk.f podOk
  refine ev_bind (specName s hs) (ev_test (fun h => ?_) (fun h => ?_))
  · rw [h, Bool.true_and]
    refine ev_call (specTick _) (ev_test (fun h => ?_) (fun h => ?_))
    · rw [h, Bool.true_and]; exact ev_call (specIn _ _ _) ev_now
    · rw [h, Bool.false_and]; exact ev_now
  · rw [h, Bool.false_and]; exact ev_now
theorem implPod (s : ByteArray) (b p : Int) (r : Bool) (hs : s.size ≤ 9223372036854775807) : Ev (fun k => impl_PodOk.f k s b p r) (podOk s b p) := by
  unfold impl_PodOk.f podOk
  refine ev_bind (implName s hs) (ev_test (fun h => ?_) (fun h => ?_))
  · rw [h, Bool.true_and]
    refine ev_call (implTick _) (ev_test (fun h => ?_) (fun h => ?_))
    · rw [h, Bool.true_and]; exact ev_call (implIn _ _ _) ev_now
    · rw [h, Bool.false_and]; exact ev_now
  · rw [h, Bool.false_and]; exact ev_now
theorem rulesBoth (a b c : Int) : ∃ r, spec_RulesOk.f a b c = some r ∧ impl_RulesOk.f a b c = some r := by
  unfold spec_RulesOk.f impl_RulesOk.f
  simp only [specIn, implIn, Option.bind_some]
  cases decide (0 ≤ a ∧ a ≤ 1000) <;> cases decide (0 ≤ b ∧ b ≤ 1000) <;> exact ⟨_, rfl, rfl⟩

/-- Both ask in another order, and answer one thing. -/
theorem classBoth (s : ByteArray) (b p : Int) (rd : Bool) (l : List S58) (m : ByteArray) (now d f w : Int) (hs : s.size ≤ 9223372036854775807) (hn : l.length ≤ 1048577) (hf : FitsStore l) :
    ∃ r, Ev (fun k => spec_ClassOf.f k s b p rd l m now d f w) r ∧ Ev (fun k => impl_ClassOf.f k s b p rd l m now d f w) r := by
  unfold spec_ClassOf.f impl_ClassOf.f
  have p1 := specPod s b p rd hs
  have p2 := implPod s b p rd hs
  cases hp : podOk s b p with
  | false =>
    rw [hp] at p1 p2
    exact ⟨-1, ev_bind p1 (ev_neg (by simp) (spec_ClassOf.j0.st (ev_pos rfl ev_now))), ev_bind p2 (ev_neg (by simp) (impl_ClassOf.j0.st (ev_pos rfl ev_now)))⟩
  | true =>
    rw [hp] at p1 p2
    obtain ⟨q, q1, q2⟩ := rulesBoth d f w
    cases q with
    | false => exact ⟨-1, ev_bind p1 (ev_pos rfl (ev_call q1 (ev_neg (by simp) (spec_ClassOf.j0.st (ev_pos rfl ev_now))))), ev_bind p2 (ev_pos rfl (ev_call q2 (ev_neg (by simp) (impl_ClassOf.j0.st (ev_pos rfl ev_now)))))⟩
    | true =>
      by_cases ht : 0 ≤ now ∧ now ≤ 1000000000
      · have s1 := specStore l hf
        have s2 := implStore l hn hf
        cases hok : storeOk l with
        | false =>
          rw [hok] at s1 s2
          exact ⟨-1, ev_bind p1 (ev_pos rfl (ev_call q1 (ev_pos rfl (ev_call (specTick _) (ev_pos (decide_eq_true ht) (ev_bind s1 (spec_ClassOf.j0.st (ev_pos rfl ev_now)))))))), ev_bind p2 (ev_pos rfl (ev_call q2 (ev_pos rfl (ev_call (implTick _) (ev_pos (decide_eq_true ht) (ev_bind s2 (impl_ClassOf.j0.st (ev_pos rfl ev_now))))))))⟩
        | true =>
          rw [hok] at s1 s2
          obtain ⟨x, y, ok, l1, l2⟩ := latestBoth l s m hn hf
          have last : ∀ late : Bool, ∃ r, Ev (fun k => spec_ClassOf.j1 k now late s b p rd d f w) r ∧ Ev (fun k => impl_ClassOf.j1 k now late s b p rd d f w) r := by
            intro late
            cases late with
            | true => exact ⟨2, spec_ClassOf.j1.st (ev_pos rfl ev_now), impl_ClassOf.j1.st (ev_pos rfl ev_now)⟩
            | false =>
              cases rd with
              | false => exact ⟨1, spec_ClassOf.j1.st (ev_neg (by simp) (ev_neg (by simp) ev_now)), impl_ClassOf.j1.st (ev_neg (by simp) (ev_neg (by simp) ev_now))⟩
              | true =>
                by_cases hw : wrap64 (b + d) > now
                · exact ⟨1, spec_ClassOf.j1.st (ev_neg (by simp) (ev_pos rfl (ev_pos hw ev_now))), impl_ClassOf.j1.st (ev_neg (by simp) (ev_pos rfl (ev_pos hw ev_now)))⟩
                · exact ⟨0, spec_ClassOf.j1.st (ev_neg (by simp) (ev_pos rfl (ev_neg hw ev_now))), impl_ClassOf.j1.st (ev_neg (by simp) (ev_pos rfl (ev_neg hw ev_now)))⟩
          have body : ∃ r, Ev (fun k => spec_ClassOf.j0 k l m now (!true) s b p rd d f w) r ∧ Ev (fun k => impl_ClassOf.j0 k l m now (!true) s b p rd d f w) r := by
            by_cases hp0 : p = 0
            · cases ok with
              | true =>
                obtain ⟨r, r1, r2⟩ := last (decide ((wrap64 (x + f)) < now))
                exact ⟨r, spec_ClassOf.j0.st (ev_neg (by simp) (ev_pos hp0 (ev_bind l1 (ev_pos rfl r1)))), impl_ClassOf.j0.st (ev_neg (by simp) (ev_bind l2 (ev_pos hp0 (ev_pos rfl r2))))⟩
              | false =>
                obtain ⟨r, r1, r2⟩ := last true
                exact ⟨r, spec_ClassOf.j0.st (ev_neg (by simp) (ev_pos hp0 (ev_bind l1 (ev_neg (by simp) r1)))), impl_ClassOf.j0.st (ev_neg (by simp) (ev_bind l2 (ev_pos hp0 (ev_neg (by simp) r2))))⟩
            · exact ⟨3, spec_ClassOf.j0.st (ev_neg (by simp) (ev_neg hp0 ev_now)), impl_ClassOf.j0.st (ev_neg (by simp) (ev_bind l2 (ev_neg hp0 ev_now)))⟩
          obtain ⟨r, r1, r2⟩ := body
          exact ⟨r, ev_bind p1 (ev_pos rfl (ev_call q1 (ev_pos rfl (ev_call (specTick _) (ev_pos (decide_eq_true ht) (ev_bind s1 r1)))))), ev_bind p2 (ev_pos rfl (ev_call q2 (ev_pos rfl (ev_call (implTick _) (ev_pos (decide_eq_true ht) (ev_bind s2 r2))))))⟩
      · exact ⟨-1, ev_bind p1 (ev_pos rfl (ev_call q1 (ev_pos rfl (ev_call (specTick _) (ev_neg (by rw [decide_eq_false ht]; simp) (spec_ClassOf.j0.st (ev_pos rfl ev_now))))))), ev_bind p2 (ev_pos rfl (ev_call q2 (ev_pos rfl (ev_call (implTick _) (ev_neg (by rw [decide_eq_false ht]; simp) (impl_ClassOf.j0.st (ev_pos rfl ev_now)))))))⟩

theorem plainClassOf (s : ByteArray) (b p : Int) (rd : Bool) (l : List S56) (m : ByteArray) (now d f w : Int) (hs : s.size ≤ 9223372036854775807) (hl : Came l) : Ev (fun k => laws_FnExactClassOf.f k s b p rd l m now d f w) true := by
  unfold laws_FnExactClassOf.f
  refine ev_ite (fun _ => ev_now) (fun _ => ?_)
  have hz : ∃ z, laws_szPod.f s b p rd 1048576 = some z ∧ z ≤ 1048576 := by
    unfold laws_szPod.f
    rw [w64 (by omega) (by omega)]
    by_cases hc : 1048576 - (s.size : Int) < 0
    · exact ⟨-1, by rw [if_pos hc], by omega⟩
    · exact ⟨_, by rw [if_neg hc], by omega⟩
  obtain ⟨z, hz, hz1⟩ := hz
  refine ev_call hz (ev_ite (fun _ => ev_now) (fun h0 => ?_))
  obtain ⟨r, hr, hrl⟩ := szStore l hl z (by omega) hz1
  refine ev_bind hr (ev_ite (fun _ => ev_now) (fun h => ?_))
  have h1 := (hrl h).1
  have hf := h1.fits
  have hn : (l.map convS).length ≤ 1048577 := by rw [List.length_map]; have := h1.1; omega
  obtain ⟨q, q1, q2⟩ := classBoth s b p rd (l.map convS) m now d f w hs hn hf
  have e1 : laws_toPod.f s b p rd = some (s, b, p, rd) := rfl
  have e2 : laws_toRules.f d f w = some (d, f, w) := rfl
  exact ev_call e1 (ev_bind (toStore l h1) (ev_call e2 (ev_bind q1 (ev_bind (toStore l h1) (ev_call e1 (ev_call e2 (ev_bind q2 (ev_pos rfl (ev_bind (toStore l h1) (ev_bind (eqStore l h1) (ev_pos rfl ev_now)))))))))))
end Go.Proofs.Ytecjingcnaopdaa.PA
