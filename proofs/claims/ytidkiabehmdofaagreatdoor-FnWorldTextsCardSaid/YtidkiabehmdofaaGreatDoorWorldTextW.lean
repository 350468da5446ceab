/- What the reference's WorldText answers: the text of the world if the world is good, else the empty text. No condition but that texts fit into memory and lists are of a length that a statement lets pass. -/
import Derived.Test.YtidkiabehmdofaaGreatDoorWorldTextImpl
import Derived.Test.YtidkiabehmdofaaGreatDoorPAx0
import Derived.Test.YtidkiabehmdofaaGreatDoorPAx6
namespace Go.Proofs.YtidkiabehmdofaaGreatDoor.PA
open Go.RowKit Go.Proofs.YtidkiabehmdofaaGreatDoorW.PrintWords Go.Proofs.YtidkiabehmdofaaGreatDoorW.PrintLast Go.Proofs.YtidkiabehmdofaaGreatDoorW.PrintMore Go.Proofs.YtidkiabehmdofaaGreatDoor.Aid
set_option linter.unusedVariables false

section
variable (a b c : Int) (gs : List S48) (p1 : List S101) (u v : Int) (p2 : List S101) (d e m x : Int) (L : List Int) (w s n : Int)

theorem specLoadsText (hL : L.length ≤ 20) (y : ByteArray) (hy : y.size ≤ 1000) : Ev (fun k => spec_WorldText.l0 k y 0 a b c gs p1 u v p2 d e m x L w s n) (loadsText y L) := by
  have l1 : (⟨#[32]⟩ : ByteArray).size = 1 := rfl
  have := ev_up (n := L.length) (fun i => Ev (fun k => spec_WorldText.l0 k (loadsText y (L.take i)) (i : Int) a b c gs p1 u v p2 d e m x L w s n) (loadsText y L))
    (by
      rw [List.take_length]
      exact spec_WorldText.l0.st (ev_neg (by omega) ev_now))
    (by
      intro i hi H
      have hz := loadsText_size y (L.take i)
      rw [List.length_take] at hz
      have hm := milliText_size (rd L (i : Int))
      refine spec_WorldText.l0.st (ev_pos (by omega) (ev_pos (by omega) (ev_pos (by omega) (ev_bind (specMilli _) (ev_pos (by rw [ByteArray.size_append, l1]; omega) ?_)))))
      rw [w64 (by omega) (by omega)]
      rw [List.take_add_one, List.getElem?_eq_getElem hi] at H
      have H2 : Ev (fun k => spec_WorldText.l0 k (loadsText y (L.take i ++ [L[i]])) ((i + 1 : Nat) : Int) a b c gs p1 u v p2 d e m x L w s n) (loadsText y L) := H
      rw [loadsText_snoc, ← rd_at L i hi] at H2
      exact H2) 0 (Nat.zero_le _)
  exact this
variable (hf : FitsG gs) (hl : gs.length ≤ 1048577) (h1 : p1.length ≤ 1048577) (h2 : p2.length ≤ 1048577) (hL : L.length ≤ 1048577)
include hf hl h1 h2 hL
theorem specWorldText : Ev (fun k => spec_WorldText.f k a b c gs p1 u v p2 d e m x L w s n) (if worldOk a b c gs p1 u v p2 d e m x L w s n = true then worldText n.toNat w.toNat s.toNat L else ⟨#[]⟩) := by
  have s1 := specWorld a b c gs p1 u v p2 d e m x L w s n hf hl h1 h2 hL
  unfold spec_WorldText.f
  cases hok : worldOk a b c gs p1 u v p2 d e m x L w s n with
  | false =>
    rw [hok] at s1
    exact ev_bind s1 (ev_neg (by simp) ev_now)
  | true =>
    rw [hok] at s1
    simp only [worldOk, worldTail, inb, Bool.and_eq_true, decide_eq_true_eq] at hok
    obtain ⟨_, _, _, _, hL20, hw, hs, hn⟩ := hok
    obtain ⟨w, rfl⟩ : ∃ q : Nat, w = (q : Int) := ⟨w.toNat, by omega⟩
    obtain ⟨s, rfl⟩ : ∃ q : Nat, s = (q : Int) := ⟨s.toNat, by omega⟩
    obtain ⟨n, rfl⟩ : ∃ q : Nat, n = (q : Int) := ⟨n.toNat, by omega⟩
    have zw := numText_size w (by omega)
    have zs := numText_size s (by omega)
    have zn := numText_size n (by omega)
    have l1 : (⟨#[58]⟩ : ByteArray).size = 1 := rfl
    have l2 : (⟨#[32, 119, 97, 114, 109, 32]⟩ : ByteArray).size = 6 := rfl
    have l3 : (⟨#[32, 101, 97, 99, 104, 32]⟩ : ByteArray).size = 6 := rfl
    have zh : (headText n w s).size ≤ 100 := by unfold headText; simp only [ByteArray.size_append, l2, l3]; omega
    have hL3 : L.length ≤ 20 := by omega
    have zh2 : (headText n w s ++ (⟨#[58]⟩ : ByteArray)).size ≤ 1000 := by rw [ByteArray.size_append, l1]; omega
    rw [if_pos rfl, Int.toNat_natCast, Int.toNat_natCast, Int.toNat_natCast]
    refine ev_bind s1 (ev_pos rfl (ev_bind (specNum n (by omega)) ?_))
    refine ev_pos (by omega) (ev_bind (specNum w (by omega)) (ev_pos (by rw [ByteArray.size_append, l2]; omega) (ev_pos (by simp only [ByteArray.size_append, l2]; omega) (ev_bind (specNum s (by omega)) ?_))))
    refine ev_pos (by simp only [ByteArray.size_append, l2, l3]; omega) (ev_pos (by simp only [ByteArray.size_append, l2, l3]; omega) ?_)
    exact specLoadsText a b c gs p1 u v p2 d e m x L (w : Int) (s : Int) (n : Int) hL3 _ zh2
end
end Go.Proofs.YtidkiabehmdofaaGreatDoor.PA
