/- Small laws for the plain statements: 'Ev g r' (from some number of rounds on g answers r) through tests, calls and loops; whole numbers that do not wrap; elements of lists. No condition. -/
import Derived.Test.YtidkiabehmdofaaGreatDoorWMore
namespace Go.Proofs.YtidkiabehmdofaaGreatDoor.Aid
open Go.RowKit Go.Proofs.YtidkiabehmdofaaGreatDoorW.PrintWords Go.Proofs.YtidkiabehmdofaaGreatDoorW.PrintLast Go.Proofs.YtidkiabehmdofaaGreatDoorW.PrintMore

theorem w64 {x : Int} (h0 : -9223372036854775808 ≤ x) (h1 : x ≤ 9223372036854775807) : wrap64 x = x := by
  unfold wrap64
  omega

section
variable {α β : Type} {r : α}
theorem ev_now : Ev (fun _ => some r) r := ⟨0, fun _ _ => rfl⟩
theorem ev_val {x : Option α} (h : x = some r) : Ev (fun _ => x) r := ⟨0, fun _ _ => h⟩
theorem ev_ite {c : Prop} [Decidable c] {A B : Nat → Option α} (h : c → Ev A r) (h' : ¬ c → Ev B r) : Ev (fun k => if c then A k else B k) r := by
  by_cases hc : c
  · simp only [if_pos hc]
    exact h hc
  · simp only [if_neg hc]
    exact h' hc
theorem ev_pos {c : Prop} [Decidable c] {A B : Nat → Option α} (hc : c) (h : Ev A r) : Ev (fun k => if c then A k else B k) r := by
  simp only [if_pos hc]
  exact h
theorem ev_neg {c : Prop} [Decidable c] {A B : Nat → Option α} (hc : ¬ c) (h : Ev B r) : Ev (fun k => if c then A k else B k) r := by
  simp only [if_neg hc]
  exact h
/-- A call without rounds. -/
theorem ev_call {g : Option β} {f : Nat → β → Option α} {b : β} (h : g = some b) (H : Ev (fun n => f n b) r) : Ev (fun n => g.bind (f n)) r := by
  subst h
  exact H
/-- A call with rounds. -/
theorem ev_bind {g : Nat → Option β} {f : Nat → β → Option α} {b : β} (h : Ev g b) (H : Ev (fun n => f n b) r) : Ev (fun n => (g n).bind (f n)) r := Ev.bind h H
theorem ev_step {g f : Nat → Option α} (h : ∀ k, g (k + 1) = f k) (H : Ev f r) : Ev g r := Ev.step h H
theorem ev_eq {g f : Nat → Option α} (h : ∀ k, g k = f k) (H : Ev f r) : Ev g r := Ev.congr h H
/-- The last lines of many a function: a test that decides a Bool. -/
theorem ev_test {b : Bool} {A B : Nat → Option α} (ht : b = true → Ev A r) (hf : b = false → Ev B r) : Ev (fun k => if b = true then A k else B k) r :=
  ev_ite ht fun h => hf (by simpa using h)
theorem ev_unique {g : Nat → Option α} {r s : α} (h : Ev g r) (k : Ev g s) : r = s := by
  obtain ⟨K, h⟩ := h
  obtain ⟨K', k⟩ := k
  have h1 := h (max K K') (by omega)
  have h2 := k (max K K') (by omega)
  rw [h1] at h2
  exact Option.some.inj h2
end

/-- A loop that asks one thing of each place: true if all say yes. -/
theorem ev_all {n : Nat} (g : Nat → Int → Option Bool) (good : Nat → Bool) (hstop : Ev (fun k => g k (n : Int)) true)
    (hgo : ∀ i, i < n → good i = true → ∀ r, Ev (fun k => g k ((i + 1 : Nat) : Int)) r → Ev (fun k => g k (i : Int)) r)
    (hbad : ∀ i, i < n → good i = false → Ev (fun k => g k (i : Int)) false) : Ev (fun k => g k 0) ((List.range n).all good) := by
  have key : ∀ d i, i + d = n → Ev (fun k => g k (i : Int)) ((List.range' i d).all good) := by
    intro d
    induction d with
    | zero => intro i hi; rw [show i = n by omega]; exact hstop
    | succ d ih =>
      intro i hi
      rw [List.range'_succ, List.all_cons]
      cases hb : good i with
      | true => rw [Bool.true_and]; exact hgo i (by omega) hb _ (ih (i + 1) (by omega))
      | false => rw [Bool.false_and]; exact hbad i (by omega) hb
  have := key n 0 (by omega)
  rw [List.range_eq_range']
  exact this

/-- A loop that gathers: a state s is turned at each place. -/
theorem ev_fold {σ β : Type} {n : Nat} (g : Nat → σ → Int → Option β) (step : σ → Nat → σ) (ok : σ → Nat → Prop) (r : β) (s : σ) (hs : ok s 0)
    (hstop : ∀ t, ok t n → t = (List.range n).foldl step s → Ev (fun k => g k t (n : Int)) r)
    (hgo : ∀ i s, i < n → ok s i → (ok (step s i) (i + 1)) ∧ ∀ r, Ev (fun k => g k (step s i) ((i + 1 : Nat) : Int)) r → Ev (fun k => g k s (i : Int)) r) : Ev (fun k => g k s 0) r := by
  have key : ∀ d i s', i + d = n → ok s' i → s' = (List.range i).foldl step s → Ev (fun k => g k s' (i : Int)) r := by
    intro d
    induction d with
    | zero =>
      intro i s' hi ho hf
      obtain rfl : i = n := by omega
      exact hstop s' ho hf
    | succ d ih =>
      intro i s' hi ho hf
      obtain ⟨h1, h2⟩ := hgo i s' (by omega) ho
      refine h2 r (ih (i + 1) _ (by omega) h1 ?_)
      rw [List.range_succ, List.foldl_append, ← hf]
      rfl
  exact key n 0 s (by omega) hs rfl

/-- A loop by hand: what holds from place i on. -/
theorem ev_up {n : Nat} (p : Nat → Prop) (hstop : p n) (hgo : ∀ i, i < n → p (i + 1) → p i) : ∀ i, i ≤ n → p i := by
  intro i hi
  obtain ⟨d, rfl⟩ : ∃ d, n = i + d := ⟨n - i, by omega⟩
  induction d with
  | zero => exact hstop
  | succ d ih =>
    exact ih (hgo (i + d) (by omega) hstop) (fun j hj => hgo j (by omega)) (by omega)

/-- Two texts answer one thing. -/
def Both {α : Type} (g h : Nat → Option α) : Prop := ∃ r, Ev g r ∧ Ev h r
section
variable {α β : Type}
theorem Both.val (r : α) : Both (fun _ => some r) (fun _ => some r) := ⟨r, ev_now, ev_now⟩
theorem Both.of {g h : Nat → Option α} {r : α} (hg : Ev g r) (hh : Ev h r) : Both g h := ⟨r, hg, hh⟩
theorem Both.ite {c : Prop} [Decidable c] {A B A' B' : Nat → Option α} (h : c → Both A A') (h' : ¬ c → Both B B') : Both (fun k => if c then A k else B k) (fun k => if c then A' k else B' k) := by
  by_cases hc : c
  · simp only [if_pos hc]; exact h hc
  · simp only [if_neg hc]; exact h' hc
theorem Both.steps {g h g' h' : Nat → Option α} (H : Both g' h') (hg : ∀ r, Ev g' r → Ev g r) (hh : ∀ r, Ev h' r → Ev h r) : Both g h := by
  obtain ⟨r, h1, h2⟩ := H
  exact ⟨r, hg r h1, hh r h2⟩
end

theorem all_range_congr {n : Nat} {p q : Nat → Bool} (h : ∀ i, i < n → p i = q i) : (List.range n).all p = (List.range n).all q := by
  rw [Bool.eq_iff_iff, List.all_eq_true, List.all_eq_true]
  constructor
  · intro hp x hx
    rw [← h x (List.mem_range.1 hx)]; exact hp x hx
  · intro hp x hx
    rw [h x (List.mem_range.1 hx)]; exact hp x hx

theorem mx_cases (a b : Int) : (a < b ∧ mx a b = b) ∨ (b ≤ a ∧ mx a b = a) := by
  unfold mx
  split
  · exact .inl ⟨‹_›, rfl⟩
  · exact .inr ⟨by omega, rfl⟩
theorem mn_cases (a b : Int) : (b < a ∧ mn a b = b) ∨ (a ≤ b ∧ mn a b = a) := by
  unfold mn
  split
  · exact .inl ⟨‹_›, rfl⟩
  · exact .inr ⟨by omega, rfl⟩

theorem toList_inj {a b : ByteArray} : a.toList = b.toList ↔ a = b := by
  constructor
  · intro h
    rw [ByteArray.toList_eq, ByteArray.toList_eq] at h
    exact Go.WideShapes.bytes_inj h
  · intro h
    rw [h]
end Go.Proofs.YtidkiabehmdofaaGreatDoor.Aid
