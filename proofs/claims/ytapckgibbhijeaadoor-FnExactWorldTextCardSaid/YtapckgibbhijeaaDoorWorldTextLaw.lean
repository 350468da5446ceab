/- The plain statement of FnExactWorldText: for every world that fits into memory the reference's text and the program's are one, and the world that was handed over is as it was. No further condition. -/
import Derived.Test.YtapckgibbhijeaaDoorWorldBase
import Derived.Test.YtapckgibbhijeaaDoorMilliText
import Derived.Test.YtapckgibbhijeaaDoorPAx0
import Derived.Test.YtapckgibbhijeaaDoorPAx2
import Derived.Test.YtapckgibbhijeaaDoorPAx4
import Derived.Test.YtapckgibbhijeaaDoorPAx5
namespace Go.Proofs.YtapckgibbhijeaaDoor.PA
open Go.RowKit Go.Proofs.YtapckgibbhijeaaDoorW.PrintWords Go.Proofs.YtapckgibbhijeaaDoorW.PrintLast Go.Proofs.YtapckgibbhijeaaDoorW.PrintMore Go.Proofs.YtapckgibbhijeaaDoor.Aid
set_option linter.unusedVariables false

/-- The loads behind a text. -/
def loadsText (x : ByteArray) (L : List Int) : ByteArray := L.foldl (fun y v => y ++ (⟨#[32]⟩ : ByteArray) ++ milliText v) x
theorem loadsText_snoc (x : ByteArray) (L : List Int) (v : Int) : loadsText x (L ++ [v]) = loadsText x L ++ (⟨#[32]⟩ : ByteArray) ++ milliText v := by
  unfold loadsText
  rw [List.foldl_append]
  rfl
theorem loadsText_size (x : ByteArray) (L : List Int) : (loadsText x L).size ≤ x.size + 25 * L.length := by
  induction L generalizing x with
  | nil => exact Nat.le_refl _
  | cons v t ih =>
    have := ih (x ++ (⟨#[32]⟩ : ByteArray) ++ milliText v)
    have h := milliText_size v
    rw [ByteArray.size_append, ByteArray.size_append] at this
    have l1 : (⟨#[32]⟩ : ByteArray).size = 1 := rfl
    show (loadsText (x ++ (⟨#[32]⟩ : ByteArray) ++ milliText v) t).size ≤ _
    rw [List.length_cons]
    omega
theorem rd_at (L : List Int) (i : Nat) (h : i < L.length) : rd L (i : Int) = L[i] := by
  unfold rd
  rw [Int.toNat_natCast, List.getD_eq_getElem?_getD, List.getElem?_eq_getElem h]
  rfl

/-- The head of the text. -/
def headText (n w s : Nat) : ByteArray := numText n ++ (⟨#[32, 119, 97, 114, 109, 32]⟩ : ByteArray) ++ numText w ++ (⟨#[32, 101, 97, 99, 104, 32]⟩ : ByteArray) ++ numText s
def worldText (n w s : Nat) (L : List Int) : ByteArray := loadsText (headText n w s ++ (⟨#[58]⟩ : ByteArray)) L
theorem spaced_is (a b c : ByteArray) : (⟨(spaced [a, (⟨#[119, 97, 114, 109]⟩ : ByteArray), b, (⟨#[101, 97, 99, 104]⟩ : ByteArray), c]).toArray⟩ : ByteArray) = a ++ (⟨#[32, 119, 97, 114, 109, 32]⟩ : ByteArray) ++ b ++ (⟨#[32, 101, 97, 99, 104, 32]⟩ : ByteArray) ++ c := by
  apply ByteArray.ext
  apply Array.toList_inj.1
  simp [spaced, Lib.join, List.intercalate, List.intersperse, ByteArray.data_append]
theorem spaced_len (a b c : ByteArray) : (spaced [a, (⟨#[119, 97, 114, 109]⟩ : ByteArray), b, (⟨#[101, 97, 99, 104]⟩ : ByteArray), c]).length = a.size + b.size + c.size + 12 := by
  have h := congrArg ByteArray.size (spaced_is a b c)
  have h1 : (⟨(spaced [a, (⟨#[119, 97, 114, 109]⟩ : ByteArray), b, (⟨#[101, 97, 99, 104]⟩ : ByteArray), c]).toArray⟩ : ByteArray).size = (spaced [a, (⟨#[119, 97, 114, 109]⟩ : ByteArray), b, (⟨#[101, 97, 99, 104]⟩ : ByteArray), c]).length := List.size_toArray
  rw [h1] at h
  rw [h]
  simp only [ByteArray.size_append]
  have l1 : (⟨#[32, 119, 97, 114, 109, 32]⟩ : ByteArray).size = 6 := rfl
  have l2 : (⟨#[32, 101, 97, 99, 104, 32]⟩ : ByteArray).size = 6 := rfl
  omega

section
variable (a b c : Int) (gs : List S64) (p1 : List S117) (u v : Int) (p2 : List S117) (d e m x : Int) (L : List Int) (w s n : Int)

theorem specLoadsText (hL : L.length ≤ 20) (y : ByteArray) (hy : y.size ≤ 1000) : Ev (fun k => spec_WorldText.l0 k y 0 a b c gs p1 u v p2 d e m x L w s n) (loadsText y L) := by
  have l1 : (⟨#[32]⟩ : ByteArray).size = 1 := rfl
  have := ev_up (n := L.length) (fun i => Ev (fun k => spec_WorldText.l0 k (loadsText y (L.take i)) (i : Int) a b c gs p1 u v p2 d e m x L w s n) (loadsText y L))
    (by
      rw [List.take_length]
      exact spec_WorldText.l0.st (ev_neg (by omega) ev_now))
    (by
      intro i hi H
      have hz := loadsText_size y (L.take i)
      rw [List.length_take] at hz
      have hm := milliText_size (rd L (i : Int))
      refine spec_WorldText.l0.st (ev_pos (by omega) (ev_pos (by omega) (ev_pos (by omega) (ev_bind (specMilli _) (ev_pos (by rw [ByteArray.size_append, l1]; omega) ?_)))))
      rw [w64 (by omega) (by omega)]
      rw [List.take_add_one, List.getElem?_eq_getElem hi] at H
      have H2 : Ev (fun k => spec_WorldText.l0 k (loadsText y (L.take i ++ [L[i]])) ((i + 1 : Nat) : Int) a b c gs p1 u v p2 d e m x L w s n) (loadsText y L) := H
      rw [loadsText_snoc, ← rd_at L i hi] at H2
      exact H2) 0 (Nat.zero_le _)
  exact this
theorem implLoadsText (hL : L.length ≤ 20) (y : ByteArray) (hy : y.size ≤ 1000) : Ev (fun k => impl_WorldText.l0 k y L (L.length : Int) 0) (loadsText y L) := by
  have l1 : (⟨#[32]⟩ : ByteArray).size = 1 := rfl
  have := ev_up (n := L.length) (fun i => Ev (fun k => impl_WorldText.l0 k (loadsText y (L.take i)) L (L.length : Int) (i : Int)) (loadsText y L))
    (by
      rw [List.take_length]
      exact impl_WorldText.l0.st (ev_neg (by omega) ev_now))
    (by
      intro i hi H
      have hz := loadsText_size y (L.take i)
      rw [List.length_take] at hz
      have hm := milliText_size (rd L (i : Int))
      refine impl_WorldText.l0.st (ev_pos (by omega) (ev_pos (by omega) (ev_pos (by omega) (ev_bind (implMilli _) (ev_pos (by omega) (ev_pos (by rw [ByteArray.size_append, l1]; omega) ?_))))))
      rw [w64 (by omega) (by omega)]
      rw [List.take_add_one, List.getElem?_eq_getElem hi] at H
      have H2 : Ev (fun k => impl_WorldText.l0 k (loadsText y (L.take i ++ [L[i]])) L (L.length : Int) ((i + 1 : Nat) : Int)) (loadsText y L) := H
      rw [loadsText_snoc, ← rd_at L i hi, ByteArray.append_assoc] at H2
      exact H2) 0 (Nat.zero_le _)
  exact this

variable (hf : FitsG gs) (hl : gs.length ≤ 1048577) (h1 : p1.length ≤ 1048577) (h2 : p2.length ≤ 1048577) (hL : L.length ≤ 1048577)
include hf hl h1 h2 hL
theorem worldTextBoth : ∃ t, Ev (fun k => spec_WorldText.f k a b c gs p1 u v p2 d e m x L w s n) t ∧ Ev (fun k => impl_WorldText.f k a b c gs p1 u v p2 d e m x L w s n) t := by
  have s1 := specWorld a b c gs p1 u v p2 d e m x L w s n hf hl h1 h2 hL
  have s2 := implWorld a b c gs p1 u v p2 d e m x L w s n hf hl h1 h2 hL
  unfold spec_WorldText.f impl_WorldText.f
  cases hok : worldOk a b c gs p1 u v p2 d e m x L w s n with
  | false =>
    rw [hok] at s1 s2
    exact ⟨_, ev_bind s1 (ev_neg (by simp) ev_now), ev_bind s2 (ev_neg (by simp) ev_now)⟩
  | true =>
    rw [hok] at s1 s2
    simp only [worldOk, worldTail, inb, Bool.and_eq_true, decide_eq_true_eq] at hok
    obtain ⟨_, _, _, _, hL20, hw, hs, hn⟩ := hok
    obtain ⟨w, rfl⟩ : ∃ q : Nat, w = (q : Int) := ⟨w.toNat, by omega⟩
    obtain ⟨s, rfl⟩ : ∃ q : Nat, s = (q : Int) := ⟨s.toNat, by omega⟩
    obtain ⟨n, rfl⟩ : ∃ q : Nat, n = (q : Int) := ⟨n.toNat, by omega⟩
    have zw := numText_size w (by omega)
    have zs := numText_size s (by omega)
    have zn := numText_size n (by omega)
    have l1 : (⟨#[58]⟩ : ByteArray).size = 1 := rfl
    have l2 : (⟨#[32, 119, 97, 114, 109, 32]⟩ : ByteArray).size = 6 := rfl
    have l3 : (⟨#[32, 101, 97, 99, 104, 32]⟩ : ByteArray).size = 6 := rfl
    have zh : (headText n w s).size ≤ 100 := by unfold headText; simp only [ByteArray.size_append, l2, l3]; omega
    have hL3 : L.length ≤ 20 := by omega
    have zh2 : (headText n w s ++ (⟨#[58]⟩ : ByteArray)).size ≤ 1000 := by rw [ByteArray.size_append, l1]; omega
    refine ⟨worldText n w s L, ev_bind s1 (ev_pos rfl (ev_bind (specNum n (by omega)) ?_)), ev_bind s2 (ev_pos rfl (ev_call (implNum n (by omega)) (ev_call (implNum w (by omega)) (ev_call (implNum s (by omega)) ?_))))⟩
    · refine ev_pos (by omega) (ev_bind (specNum w (by omega)) (ev_pos (by rw [ByteArray.size_append, l2]; omega) (ev_pos (by simp only [ByteArray.size_append, l2]; omega) (ev_bind (specNum s (by omega)) ?_))))
      refine ev_pos (by simp only [ByteArray.size_append, l2, l3]; omega) (ev_pos (by simp only [ByteArray.size_append, l2, l3]; omega) ?_)
      exact specLoadsText a b c gs p1 u v p2 d e m x L (w : Int) (s : Int) (n : Int) hL3 _ zh2
    · refine ev_call (b := headText n w s) ?_ ?_
      · unfold impl_words.f
        have hlen := spaced_len (numText n) (numText w) (numText s)
        rw [if_pos ⟨by simp, by simp, by omega⟩, spaced_is]
        rfl
      · exact ev_pos (by omega) (implLoadsText L hL3 _ zh2)
end

theorem plainWorldText (a b c : Int) (gs : List S78) (p1 : List S119) (u v : Int) (p2 : List S119) (d e m x : Int) (L : List Int) (w s n : Int)
    (hg : gs.length ≤ 9223372036854775807 ∧ ∀ x ∈ gs, x.f0.size ≤ 9223372036854775807) (h1 : p1.length ≤ 9223372036854775807) (h2 : p2.length ≤ 9223372036854775807) (hL : L.length ≤ 9223372036854775807) :
    Ev (fun k => laws_FnExactWorldText.f k a b c gs p1 u v p2 d e m x L w s n) true := by
  unfold laws_FnExactWorldText.f
  obtain ⟨r, hr, hrl⟩ := szWorld a b c gs p1 u v p2 d e m x L w s n hg h1 h2 hL
  refine ev_bind hr (ev_ite (fun _ => ev_now) (fun h => ?_))
  obtain ⟨q1, q2, q3, q4⟩ := hrl h
  have t := toWorld a b c gs p1 u v p2 d e m x L w s n q1 q2 q3 q4
  have l1 : (gs.map convG).length ≤ 1048577 := by rw [List.length_map]; omega
  have l2 : (p1.map convP).length ≤ 1048577 := by rw [List.length_map]; omega
  have l3 : (p2.map convP).length ≤ 1048577 := by rw [List.length_map]; omega
  obtain ⟨y, y1, y2⟩ := worldTextBoth a b c (gs.map convG) (p1.map convP) u v (p2.map convP) d e m x L w s n (FitsG.conv hg.2) l1 l2 l3 (by omega)
  exact ev_bind t (ev_bind y1 (ev_bind t (ev_bind y2 (ev_pos rfl (ev_bind t (ev_bind (eqWorld a b c (gs.map convG) (p1.map convP) u v (p2.map convP) d e m x L w s n l1 l2 l3 (by omega)) (ev_pos rfl ev_now)))))))
end Go.Proofs.YtapckgibbhijeaaDoor.PA
