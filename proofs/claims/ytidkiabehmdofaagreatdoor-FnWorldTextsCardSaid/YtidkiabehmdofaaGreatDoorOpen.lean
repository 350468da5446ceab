/- How an argument that a row reads as data is handed to the printed contracts: a reading of a type gives a value of the type's kind (Kd), its whole numbers within their ranges, its strings and slices no longer than maxLen. No condition. -/
import Derived.Test.YtidkiabehmdofaaGreatDoorWWords
import Derived.Deep.Slices
import Derived.ChangeArms
import Derived.ChangeSame
import Derived.WideShapes
namespace Go.Proofs.YtidkiabehmdofaaGreatDoor.Opening
open Go.RowKit Go.ChangeShapes Go.WideShapes Go.Deep Go.Proofs.YtidkiabehmdofaaGreatDoorW.PrintWords
set_option linter.unusedVariables false

/-- Whatever reads as type t is a value of kind d, and F holds of it. -/
def Opens {α : Type} (P : Program) (d : Kd α) (t : TypeId) (F : α → Prop) : Prop :=
  ∀ {H : Type} (enc : TypeId × Value → H) (w : World) (base : Nat) (spare : Nat → Bool) (held : Bool) (fuel : Nat) (cs : List Value) (x : DataW H × List MemPlace),
    DataW.trod enc P w base spare held fuel t cs = some x → ∃ y, d.K w y cs ∧ F y

/-- A struct's fields from one on. -/
def OpensF {α : Type} (P : Program) (d : Kd α) (fs : List Field) (off : Nat) (F : α → Prop) : Prop :=
  ∀ {H : Type} (enc : TypeId × Value → H) (w : World) (base : Nat) (spare : Nat → Bool) (held : Bool) (n : Nat) (cs : List Value),
    (∀ f ∈ fs, ∃ x, DataW.trod enc P w base spare held n f.type ((cs.drop f.offset).take (P.cellsOf f.type)) = some x) → cs.length = off + d.sz → ∃ y, d.K w y (cs.drop off) ∧ F y

variable {P : Program}

theorem Opens.int {t : TypeId} {k : IntKind} (ht : P.underlying t = some (.int k)) : Opens P (Kd.int k) t (fun n => (Lit.int k n).wf = true) := by
  intro H enc w base spare held fuel cs x h
  obtain ⟨n, rfl, _, hw⟩ := DataW.trod_int ht h
  exact ⟨n, rfl, hw⟩

theorem Opens.bool {t : TypeId} (ht : P.underlying t = some .bool) : Opens P Kd.bool t (fun _ => True) := by
  intro H enc w base spare held fuel cs x h
  obtain ⟨n, rfl, _⟩ := DataW.trod_bool ht h
  exact ⟨n, rfl, trivial⟩

theorem Opens.string {t : TypeId} (ht : P.underlying t = some .string) : Opens P Kd.string t (fun s => s.size ≤ maxLen) := by
  intro H enc w base spare held fuel cs x h
  obtain ⟨n, rfl, _, hw⟩ := DataW.trod_string ht h
  exact ⟨n, rfl, hw⟩

theorem Opens.iso {α β : Type} {d : Kd α} {t : TypeId} {F : α → Prop} (f : β → α) (g : α → β) (hg : ∀ x, f (g x) = x) (h : Opens P d t F) : Opens P (Kd.iso d f) t (fun y => F (f y)) := by
  intro H enc w base spare held fuel cs x hx
  obtain ⟨y, hy, hF⟩ := h enc w base spare held fuel cs x hx
  exact ⟨g y, by show d.K w (f (g y)) cs; rw [hg]; exact hy, by show F (f (g y)); rw [hg]; exact hF⟩

theorem OpensF.last {α : Type} {d : Kd α} {f : Field} {off : Nat} {F : α → Prop} (h : Opens P d f.type F) (ho : f.offset = off) (hc : P.cellsOf f.type = d.sz) : OpensF P d [f] off F := by
  intro H enc w base spare held n cs hx hl
  obtain ⟨x, hx⟩ := hx f (by simp)
  rw [ho, hc, List.take_of_length_le (by rw [List.length_drop]; omega)] at hx
  exact h enc w base spare held n _ x hx

theorem OpensF.cons {α β : Type} {a : Kd α} {b : Kd β} {f : Field} {fs : List Field} {off : Nat} {F : α → Prop} {G : β → Prop} (h : Opens P a f.type F) (ho : f.offset = off) (hc : P.cellsOf f.type = a.sz)
    (hs : OpensF P b fs (off + a.sz) G) : OpensF P (Kd.pair a b) (f :: fs) off (fun p => F p.1 ∧ G p.2) := by
  intro H enc w base spare held n cs hx hl
  have hsz : (Kd.pair a b).sz = a.sz + b.sz := rfl
  obtain ⟨x, h1⟩ := hx f (by simp)
  rw [ho, hc] at h1
  obtain ⟨y, hy, hF⟩ := h enc w base spare held n _ x h1
  obtain ⟨z, hz, hG⟩ := hs enc w base spare held n cs (fun g hg => hx g (by simp [hg])) (by omega)
  refine ⟨(y, z), ⟨_, _, ?_, hy, hz⟩, hF, hG⟩
  rw [← List.drop_drop, List.take_append_drop]

theorem Opens.struct {α : Type} {d : Kd α} {t : TypeId} {fs : Array Field} {F : α → Prop} (ht : P.underlying t = some (.struct fs)) (hc : P.cellsOf t = d.sz) (h : OpensF P d fs.toList 0 F) : Opens P d t F := by
  intro H enc w base spare held fuel cs x hx
  obtain ⟨xs, n, _, _, hl, hlen, hf⟩ := DataW.trod_struct ht hx
  have := h enc w base spare held n cs (fun f hm => by
    obtain ⟨i, hi, rfl⟩ := List.getElem_of_mem hm
    have hi' : i < fs.size := by simpa using hi
    have h1 := hf i fs[i] (by simp [hi'])
    rw [List.getElem?_eq_getElem (by omega)] at h1
    exact ⟨_, by simpa using h1⟩) (by omega)
  simpa using this

theorem Opens.slice {α : Type} [Inhabited α] {d : Kd α} {t e : TypeId} {F : α → Prop} (ht : P.underlying t = some (.slice e)) (hc : P.cellsOf e = d.sz) (h : Opens P d e F) :
    Opens P (Kd.slice e d) t (fun xs => xs.length ≤ maxLen ∧ ∀ x ∈ xs, F x) := by
  intro H enc w base spare held fuel cs x hx
  rcases open_slice ht hx with ⟨rfl, _⟩ | ⟨a, len, cap, m, n, D, Pl, rfl, hb, hl, hm, hmm, _, hel⟩
  · exact ⟨[], ⟨none, 0, rfl, Nat.le_refl _, rfl, by simp, fun h0 => absurd h0 (Nat.not_lt_zero _)⟩, by simp, by simp⟩
  · have hlm : len ≤ m := by rw [hmm]; split <;> omega
    obtain ⟨f, hf⟩ := choose_lt (α := α) (n := len) (p := fun i y => ∃ c : List Value, c.length = d.sz ∧ d.K w y c ∧ F y ∧ ∀ j u, c[j]? = some u → w.cell? (a.add (i * d.sz + j)) = some u) (fun i hi => by
      obtain ⟨c, h1, h2⟩ := hel i (by omega)
      obtain ⟨y, hy, hF⟩ := h enc w base spare held n c _ h2
      obtain ⟨_, hcl, hcell⟩ := World.cells?_some h1
      rw [hc] at hcl hcell
      refine ⟨y, c, hcl, hy, hF, fun j u hu => ?_⟩
      have hj : j < d.sz := by have := (List.getElem?_eq_some_iff.1 hu).1; omega
      have h3 := hcell j hj
      have h4 : (a.add (i * d.sz)).add j = a.add (i * d.sz + j) := Go.Deep.add_add _ _ _
      first | (rw [hu, h4] at h3; exact h3.symm) | (rw [hu, h4] at h3; exact h3))
    have hmax : maxLen = 9223372036854775807 := rfl
    have hlen : ((List.range len).map f).length = len := by simp
    refine ⟨(List.range len).map f, ⟨some a, cap, by rw [hlen], by rw [hlen]; exact hl, ⟨rfl, by rw [hlen]; omega, fun _ => ⟨a, rfl, fun j p hj => ?_⟩⟩⟩, by rw [hlen]; omega, ?_⟩
    · have hjl : j < len := by have := (List.getElem?_eq_some_iff.1 hj).1; omega
      obtain ⟨c, h1, h2, _, h4⟩ := hf j hjl
      rw [List.getElem?_map, List.getElem?_range hjl] at hj
      injection hj with hj
      subst hj
      exact ⟨c, h1, h2, h4⟩
    · intro y hy
      obtain ⟨i, hi, rfl⟩ := List.mem_map.1 hy
      obtain ⟨_, _, _, hF, _⟩ := hf i (List.mem_range.1 hi)
      exact hF

/-- A slice argument, laid open. -/
theorem Opens.row {α : Type} {d : Kd α} {t e : TypeId} {F : List α → Prop} (h : Opens P (Kd.slice e d) t F) {H : Type} {enc : TypeId × Value → H} {w : World} {base : Nat} {spare : Nat → Bool} {held : Bool} {A : Option Addr} {len cap : Nat} {y : DataW H} {ps : List MemPlace}
    (hx : DataW.Trod enc P w base spare held t (.slice A len cap) y ps) : ∃ l : List α, len = l.length ∧ l.length ≤ cap ∧ d.C w A l.length l ∧ F l := by
  obtain ⟨fuel, hx⟩ := hx
  obtain ⟨l, ⟨A', c, he, hle, hC⟩, hF⟩ := h enc w base spare held fuel _ _ hx
  simp only [Value.cells] at he
  obtain ⟨rfl, rfl, rfl⟩ : A = A' ∧ len = l.length ∧ cap = c := by simpa using he
  exact ⟨l, rfl, hle, hC, hF⟩

/-- A struct argument, laid open. -/
theorem Opens.agg {α : Type} {d : Kd α} {t : TypeId} {F : α → Prop} (h : Opens P d t F) {H : Type} {enc : TypeId × Value → H} {w : World} {base : Nat} {spare : Nat → Bool} {held : Bool} {cs : Array Value} {y : DataW H} {ps : List MemPlace}
    (hx : DataW.Trod enc P w base spare held t (.agg cs) y ps) : ∃ x : α, d.K w x cs.toList ∧ F x := by
  obtain ⟨fuel, hx⟩ := hx
  exact h enc w base spare held fuel _ _ hx

theorem wf_i64 {n : Int} (h : (Lit.int .i64 n).wf = true) : -9223372036854775808 ≤ n ∧ n ≤ 9223372036854775807 := by
  simp only [Lit.wf, IntKind.min, IntKind.max, IntKind.signed, IntKind.bits, Bool.and_eq_true, decide_eq_true_eq, if_true] at h
  omega

end Go.Proofs.YtidkiabehmdofaaGreatDoor.Opening
