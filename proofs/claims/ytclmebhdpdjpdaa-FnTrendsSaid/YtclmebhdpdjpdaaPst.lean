/- What a slot holds behind a step of a region, in one law: for the printed texts. No condition. -/
import Derived.Test.YtclmebhdpdjpdaaWMore
namespace Go.Proofs.Ytclmebhdpdjpdaa.Pst
open Go.RowKit Go.Proofs.YtclmebhdpdjpdaaW.PrintWords Go.Proofs.YtclmebhdpdjpdaaW.PrintLast Go.Proofs.YtclmebhdpdjpdaaW.PrintMore
theorem all : (∀ (a : Act) (d : Tmp) (v : Value), a.put (some d) v = { tmps := a.tmps.setIfInBounds d v, defers := a.defers }) ∧ (∀ (a : Act) (v : Value), a.put none v = a) ∧
    (∀ (l : List Value) (i : Nat) (x : Value), l.toArray.setIfInBounds i x = (l.set i x).toArray) ∧ (∀ (x y : Value) (l : List Value), (x :: l).set 0 y = y :: l) ∧ (∀ (x y : Value) (l : List Value) (n : Nat), (x :: l).set (n + 1) y = x :: l.set n y) ∧
    (∀ n : Int, IntKind.i64.wrap n = wrap64 n) ∧ (∀ n : Int, IntKind.i32.wrap n = wrap32 n) :=
  ⟨fun _ _ _ => rfl, fun _ _ => rfl, fun _ _ _ => by simp, fun _ _ _ => rfl, fun _ _ _ _ => rfl, i64_w, i32_w⟩
/-- What stood ahead of the call stands still: out of the fact `HB` that the printed walks keep. -/
theorem bel {n : Nat} {w w' : World} (h : Below n w w' := by repeat (first | (with_reducible first | exact HB.out | apply below_alloc | apply pw_below_drewN | apply below_drew1) | exact HB.out)) : Below n w w' := h
/-- The same, past stores into what is the call's own. -/
theorem bes {n : Nat} {w w' : World} (h : Below n w w' := by repeat (first | (with_reducible first | exact HB.out | apply below_alloc | apply pw_below_drewN | apply below_drew1 | refine below_set ?_ (Aside0.out (by assumption))) | exact HB.out)) : Below n w w' := h
/-- A world that another has become by draws and new blocks. -/
def Grew (W W' : World) : Type := PLift (Below W.heap.size W W')
theorem grew {W W' : World} (h : Nonempty (Grew W W')) : Below W.heap.size W W' := h.elim fun b => b.down
instance grewHere (W : World) : Nonempty (Grew W W) := ⟨⟨Below.refl _ _⟩⟩
instance grewDrew (W W' : World) [h : Nonempty (Grew W W')] : Nonempty (Grew W W'.drew) := ⟨⟨below_drew1 (grew h)⟩⟩
instance grewDrewN (W W' : World) [h : Nonempty (Grew W W')] (m : Nat) : Nonempty (Grew W (W'.drewN m)) := ⟨⟨pw_below_drewN (grew h) m⟩⟩
instance grewAlloc (W W' : World) [h : Nonempty (Grew W W')] (o : Obj) : Nonempty (Grew W (W'.alloc o)) := ⟨⟨below_alloc (grew h) o⟩⟩
theorem qb {W W' : World} [h : Nonempty (Grew W W')] {g : Nat} {o : Obj} (b : W.heap[g]? = some o) : W'.heap[g]? = some o := blk_below b (grew h)
theorem qc {α : Type} {d : Kd α} {W W' : World} [h : Nonempty (Grew W W')] {A : Option Addr} {n : Nat} {xs : List α} (b : d.C W A n xs) : d.C W' A n xs := Kd.C_below b (grew h)
theorem qr {α : Type} {d : Kd α} {e base : Nat} {ok : Nat → Prop} {v : Value} {W W' : World} [h : Nonempty (Grew W W')] {xs : List α} (b : d.R e W base ok v xs) : d.R e W' base ok v xs := Kd.R_below b (grew h)
theorem qs {α : Type} {d : Kd α} {e base : Nat} {ok : Nat → Prop} {v : Value} {W W' : World} [h : Nonempty (Grew W W')] {xs : List α} (b : Kd.S d e W base ok v xs) : Kd.S d e W' base ok v xs := Kd.S_below b (grew h)
/-! The cells of a block, all at once. -/
end Go.Proofs.Ytclmebhdpdjpdaa.Pst
