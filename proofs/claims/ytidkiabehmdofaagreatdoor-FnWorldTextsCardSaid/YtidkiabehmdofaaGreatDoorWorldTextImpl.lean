/- What the program's WorldText answers: the text of the world if the world is good, else the empty text. No condition but that texts fit into memory and lists are of a length that a statement lets pass. -/
import Derived.Test.YtidkiabehmdofaaGreatDoorWorldOkBase
import Derived.Test.YtidkiabehmdofaaGreatDoorMilliText
import Derived.Test.YtidkiabehmdofaaGreatDoorPAx0
import Derived.Test.YtidkiabehmdofaaGreatDoorPAx4
import Derived.Test.YtidkiabehmdofaaGreatDoorPAx5
namespace Go.Proofs.YtidkiabehmdofaaGreatDoor.PA
open Go.RowKit Go.Proofs.YtidkiabehmdofaaGreatDoorW.PrintWords Go.Proofs.YtidkiabehmdofaaGreatDoorW.PrintLast Go.Proofs.YtidkiabehmdofaaGreatDoorW.PrintMore Go.Proofs.YtidkiabehmdofaaGreatDoor.Aid
set_option linter.unusedVariables false

/-- The loads behind a text. -/
def loadsText (x : ByteArray) (L : List Int) : ByteArray := L.foldl (fun y v => y ++ (⟨#[32]⟩ : ByteArray) ++ milliText v) x
theorem loadsText_snoc (x : ByteArray) (L : List Int) (v : Int) : loadsText x (L ++ [v]) = loadsText x L ++ (⟨#[32]⟩ : ByteArray) ++ milliText v := by
  unfold loadsText
  rw [List.foldl_append]
  rfl
theorem loadsText_size (x : ByteArray) (L : List Int) : (loadsText x L).size ≤ x.size + 25 * L.length := by
  induction L generalizing x with
  | nil => exact Nat.le_refl _
  | cons v t ih =>
    have := ih (x ++ (⟨#[32]⟩ : ByteArray) ++ milliText v)
    have h := milliText_size v
    rw [ByteArray.size_append, ByteArray.size_append] at this
    have l1 : (⟨#[32]⟩ : ByteArray).size = 1 := rfl
    show (loadsText (x ++ (⟨#[32]⟩ : ByteArray) ++ milliText v) t).size ≤ _
    rw [List.length_cons]
    omega
theorem rd_at (L : List Int) (i : Nat) (h : i < L.length) : rd L (i : Int) = L[i] := by
  unfold rd
  rw [Int.toNat_natCast, List.getD_eq_getElem?_getD, List.getElem?_eq_getElem h]
  rfl

/-- The head of the text. -/
def headText (n w s : Nat) : ByteArray := numText n ++ (⟨#[32, 119, 97, 114, 109, 32]⟩ : ByteArray) ++ numText w ++ (⟨#[32, 101, 97, 99, 104, 32]⟩ : ByteArray) ++ numText s
def worldText (n w s : Nat) (L : List Int) : ByteArray := loadsText (headText n w s ++ (⟨#[58]⟩ : ByteArray)) L
theorem spaced_is (a b c : ByteArray) : (⟨(spaced [a, (⟨#[119, 97, 114, 109]⟩ : ByteArray), b, (⟨#[101, 97, 99, 104]⟩ : ByteArray), c]).toArray⟩ : ByteArray) = a ++ (⟨#[32, 119, 97, 114, 109, 32]⟩ : ByteArray) ++ b ++ (⟨#[32, 101, 97, 99, 104, 32]⟩ : ByteArray) ++ c := by
  apply ByteArray.ext
  apply Array.toList_inj.1
  simp [spaced, Lib.join, List.intercalate, List.intersperse, ByteArray.data_append]
theorem spaced_len (a b c : ByteArray) : (spaced [a, (⟨#[119, 97, 114, 109]⟩ : ByteArray), b, (⟨#[101, 97, 99, 104]⟩ : ByteArray), c]).length = a.size + b.size + c.size + 12 := by
  have h := congrArg ByteArray.size (spaced_is a b c)
  have h1 : (⟨(spaced [a, (⟨#[119, 97, 114, 109]⟩ : ByteArray), b, (⟨#[101, 97, 99, 104]⟩ : ByteArray), c]).toArray⟩ : ByteArray).size = (spaced [a, (⟨#[119, 97, 114, 109]⟩ : ByteArray), b, (⟨#[101, 97, 99, 104]⟩ : ByteArray), c]).length := List.size_toArray
  rw [h1] at h
  rw [h]
  simp only [ByteArray.size_append]
  have l1 : (⟨#[32, 119, 97, 114, 109, 32]⟩ : ByteArray).size = 6 := rfl
  have l2 : (⟨#[32, 101, 97, 99, 104, 32]⟩ : ByteArray).size = 6 := rfl
  omega

section
variable (a b c : Int) (gs : List S48) (p1 : List S101) (u v : Int) (p2 : List S101) (d e m x : Int) (L : List Int) (w s n : Int)

theorem implLoadsText (hL : L.length ≤ 20) (y : ByteArray) (hy : y.size ≤ 1000) : Ev (fun k => impl_WorldText.l0 k y L (L.length : Int) 0) (loadsText y L) := by
  have l1 : (⟨#[32]⟩ : ByteArray).size = 1 := rfl
  have := ev_up (n := L.length) (fun i => Ev (fun k => impl_WorldText.l0 k (loadsText y (L.take i)) L (L.length : Int) (i : Int)) (loadsText y L))
    (by
      rw [List.take_length]
      exact impl_WorldText.l0.st (ev_neg (by omega) ev_now))
    (by
      intro i hi H
      have hz := loadsText_size y (L.take i)
      rw [List.length_take] at hz
      have hm := milliText_size (rd L (i : Int))
      refine impl_WorldText.l0.st (ev_pos (by omega) (ev_pos (by omega) (ev_pos (by omega) (ev_bind (implMilli _) (ev_pos (by omega) (ev_pos (by rw [ByteArray.size_append, l1]; omega) ?_))))))
      rw [w64 (by omega) (by omega)]
      rw [List.take_add_one, List.getElem?_eq_getElem hi] at H
      have H2 : Ev (fun k => impl_WorldText.l0 k (loadsText y (L.take i ++ [L[i]])) L (L.length : Int) ((i + 1 : Nat) : Int)) (loadsText y L) := H
      rw [loadsText_snoc, ← rd_at L i hi, ByteArray.append_assoc] at H2
      exact H2) 0 (Nat.zero_le _)
  exact this

/-- The numbers of a good world are small and not negative. -/
theorem good_parts (hok : worldOk a b c gs p1 u v p2 d e m x L w s n = true) : (1 ≤ L.length ∧ L.length ≤ 20) ∧ (0 ≤ w ∧ w ≤ 50) ∧ (1 ≤ s ∧ s ≤ 50) ∧ (1 ≤ n ∧ n ≤ 12) ∧ ∀ i, i < L.length → 0 ≤ rd L (i : Int) ∧ rd L (i : Int) ≤ 100000 := by
  have h0 := hok
  simp only [worldOk, worldTail, inb, Bool.and_eq_true, decide_eq_true_eq] at hok
  obtain ⟨hlo, _, _, _, hL20, hw, hs, hn⟩ := hok
  refine ⟨by omega, hw, hs, hn, fun i hi => ?_⟩
  simp only [loadsOk, List.all_eq_true, List.mem_range] at hlo
  exact inb_true (hlo i hi)
variable (hf : FitsG gs) (hl : gs.length ≤ 1048577) (h1 : p1.length ≤ 1048577) (h2 : p2.length ≤ 1048577) (hL : L.length ≤ 1048577)
include hf hl h1 h2 hL
theorem implWorldText : Ev (fun k => impl_WorldText.f k a b c gs p1 u v p2 d e m x L w s n) (if worldOk a b c gs p1 u v p2 d e m x L w s n = true then worldText n.toNat w.toNat s.toNat L else ⟨#[]⟩) := by
  have s2 := implWorld a b c gs p1 u v p2 d e m x L w s n hf hl h1 h2 hL
  unfold impl_WorldText.f
  cases hok : worldOk a b c gs p1 u v p2 d e m x L w s n with
  | false =>
    rw [hok] at s2
    exact ev_bind s2 (ev_neg (by simp) ev_now)
  | true =>
    rw [hok] at s2
    obtain ⟨hL20, hw, hs, hn, _⟩ := good_parts a b c gs p1 u v p2 d e m x L w s n hok
    obtain ⟨w, rfl⟩ : ∃ q : Nat, w = (q : Int) := ⟨w.toNat, by omega⟩
    obtain ⟨s, rfl⟩ : ∃ q : Nat, s = (q : Int) := ⟨s.toNat, by omega⟩
    obtain ⟨n, rfl⟩ : ∃ q : Nat, n = (q : Int) := ⟨n.toNat, by omega⟩
    have zw := numText_size w (by omega)
    have zs := numText_size s (by omega)
    have zn := numText_size n (by omega)
    have l1 : (⟨#[58]⟩ : ByteArray).size = 1 := rfl
    have l2 : (⟨#[32, 119, 97, 114, 109, 32]⟩ : ByteArray).size = 6 := rfl
    have l3 : (⟨#[32, 101, 97, 99, 104, 32]⟩ : ByteArray).size = 6 := rfl
    have zh : (headText n w s).size ≤ 100 := by unfold headText; simp only [ByteArray.size_append, l2, l3]; omega
    have hL3 : L.length ≤ 20 := by omega
    have zh2 : (headText n w s ++ (⟨#[58]⟩ : ByteArray)).size ≤ 1000 := by rw [ByteArray.size_append, l1]; omega
    rw [if_pos rfl, Int.toNat_natCast, Int.toNat_natCast, Int.toNat_natCast]
    refine ev_bind s2 (ev_pos rfl (ev_call (implNum n (by omega)) (ev_call (implNum w (by omega)) (ev_call (implNum s (by omega)) ?_))))
    refine ev_call (b := headText n w s) ?_ ?_
    · unfold impl_words.f
      have hlen := spaced_len (numText n) (numText w) (numText s)
      rw [if_pos ⟨by simp, by simp, by omega⟩, spaced_is]
      rfl
    · exact ev_pos (by omega) (implLoadsText L hL3 _ zh2)
end
end Go.Proofs.YtidkiabehmdofaaGreatDoor.PA
