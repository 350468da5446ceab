/- The program's ParseWorld at the text of a good world answers yes, and that world. No condition but that texts fit into memory and lists are of a length that a statement lets pass. -/
import Derived.Test.YtidkiabehmdofaaGreatDoorParseMilliW
import Derived.Test.YtidkiabehmdofaaGreatDoorWorldTextImpl
import Derived.Test.YtidkiabehmdofaaGreatDoorPAx0
import Derived.Test.YtidkiabehmdofaaGreatDoorPAx6
import Derived.Test.YtidkiabehmdofaaGreatDoorPAx7
namespace Go.Proofs.YtidkiabehmdofaaGreatDoor.PA
open Go.RowKit Go.Proofs.YtidkiabehmdofaaGreatDoorW.PrintWords Go.Proofs.YtidkiabehmdofaaGreatDoorW.PrintLast Go.Proofs.YtidkiabehmdofaaGreatDoorW.PrintMore Go.Proofs.YtidkiabehmdofaaGreatDoor.Aid
set_option linter.unusedVariables false

theorem size_list (s : ByteArray) : s.data.toList.length = s.size := by rw [Array.length_toList]; rfl
theorem atoi_num (u : Nat) (hu : u < 1000000000) : atoiOr (numText u).data.toList = (u : Int) := by
  unfold atoiOr
  rw [numBytes, atoi_dec u (by omega)]
theorem implCopy (a b c : Int) (gs : List S48) (p1 : List S101) (u v : Int) (p2 : List S101) (d e m x : Int) (hl : gs.length ≤ 1048577) (h1 : p1.length ≤ 1048577) (h2 : p2.length ≤ 1048577) :
    impl_ownSetup.f a b c gs p1 u v p2 d e m x = some (a, b, c, gs, p1, u, v, p2, d, e, m, x) := by
  unfold impl_ownSetup.f impl_ownSide.f slices_Clone_Goal.f slices_Clone_Policy.f
  rw [if_pos (by omega), if_pos (by omega), if_pos (by omega)]
  rfl
def warmB : ByteArray := ⟨#[119, 97, 114, 109]⟩
def eachB : ByteArray := ⟨#[101, 97, 99, 104]⟩
def lineB (n w s : Nat) (L : List Int) : List ByteArray := numText n :: warmB :: numText w :: eachB :: (numText s ++ (⟨#[58]⟩ : ByteArray)) :: L.map milliText
theorem glue_flat (c : UInt8) (p : List UInt8) (ps : List (List UInt8)) : glue c (p :: ps) = p ++ (ps.map fun q => c :: q).flatten := by
  induction ps generalizing p with
  | nil => simp [glue]
  | cons q r ih =>
    show p ++ c :: glue c (q :: r) = _
    rw [ih]
    simp
theorem loads_flat (x : ByteArray) (L : List Int) : (loadsText x L).data.toList = x.data.toList ++ (L.map fun v => 32 :: (milliText v).data.toList).flatten := by
  induction L generalizing x with
  | nil => simp [loadsText]
  | cons v t ih =>
    show (loadsText (x ++ (⟨#[32]⟩ : ByteArray) ++ milliText v) t).data.toList = _
    rw [ih, ByteArray.data_append, ByteArray.data_append]
    simp
theorem line_glue (n w s : Nat) (L : List Int) : (worldText n w s L).data.toList = glue 32 ((lineB n w s L).map (·.data.toList)) := by
  unfold worldText headText lineB
  rw [loads_flat, List.map_cons, glue_flat]
  simp only [ByteArray.data_append, List.map_cons, List.map_map, warmB, eachB]
  simp [Function.comp_def]
theorem bytes_inj {P Q : List ByteArray} (h : P.map (·.data.toList) = Q.map (·.data.toList)) : P = Q := by
  induction P generalizing Q with
  | nil =>
    cases Q with
    | nil => rfl
    | cons q t => cases h
  | cons p r ih =>
    cases Q with
    | nil => cases h
    | cons q t =>
      injection h with h1 h2
      rw [ih h2, ByteArray.ext (Array.toList_inj.1 h1)]
theorem num_plain (u : Nat) : ∀ b ∈ (numText u).data.toList, b ≠ 32 := by
  rw [numBytes]
  exact fun b h => dig_ne (dec_digits _ b h) (by decide)
theorem milli_plain (v : Int) (h0 : 0 ≤ v) (h1 : v ≤ 100000) : ∀ b ∈ (milliText v).data.toList, b ≠ 32 := by
  obtain ⟨v, rfl⟩ : ∃ q : Nat, v = (q : Int) := ⟨v.toNat, by omega⟩
  rw [milliBytes v (by omega)]
  intro b hb
  rcases List.mem_append.1 hb with hb | hb
  · exact dig_ne (dec_digits _ b hb) (by decide)
  · split at hb
    · cases hb
    · rcases List.mem_cons.1 hb with rfl | hb
      · decide
      · exact dig_ne (frac_digits _ (by omega) b hb) (by decide)
theorem line_parts (n w s : Nat) (L : List Int) (hL : ∀ v ∈ L, 0 ≤ v ∧ v ≤ 100000) : parts 32 (worldText n w s L).data.toList = (lineB n w s L).map (·.data.toList) := by
  rw [line_glue]
  refine parts_glue 32 _ (by simp [lineB]) ?_
  intro p hp
  simp only [lineB, List.map_cons, List.map_map, List.mem_cons, List.mem_map, Function.comp_def] at hp
  rcases hp with rfl | rfl | rfl | rfl | rfl | ⟨v, hv, rfl⟩
  · exact num_plain n
  · decide
  · exact num_plain w
  · decide
  · intro b hb
    rw [ByteArray.data_append, Array.toList_append] at hb
    rcases List.mem_append.1 hb with hb | hb
    · exact num_plain s b hb
    · rw [show (⟨#[58]⟩ : ByteArray).data.toList = [58] from rfl, List.mem_singleton] at hb
      rw [hb]
      decide
  · exact milli_plain v (hL v hv).1 (hL v hv).2
theorem milli_small (v : Int) (h0 : 0 ≤ v) (h1 : v ≤ 100000) : (milliText v).size ≤ 7 := by
  obtain ⟨v, rfl⟩ : ∃ q : Nat, v = (q : Int) := ⟨v.toNat, by omega⟩
  have hz := size_list (milliText (v : Int))
  rw [milliBytes v (by omega), List.length_append] at hz
  have l2 := dec_len3 (v / 1000) (by omega)
  have l3 := frac_len (v % 1000)
  split at hz
  · simp only [List.length_nil] at hz
    omega
  · simp only [List.length_cons] at hz
    omega
theorem num_small (u : Nat) (hu : u < 1000) : (numText u).size ≤ 3 := by
  have hz := size_list (numText u)
  rw [numBytes] at hz
  have := dec_len3 u hu
  omega
theorem loads_small (x : ByteArray) (L : List Int) (hL : ∀ v ∈ L, 0 ≤ v ∧ v ≤ 100000) : (loadsText x L).size ≤ x.size + 8 * L.length := by
  induction L generalizing x with
  | nil => exact Nat.le_refl _
  | cons v t ih =>
    have := ih (x ++ (⟨#[32]⟩ : ByteArray) ++ milliText v) (fun y hy => hL y (by simp [hy]))
    have h := milli_small v (hL v (by simp)).1 (hL v (by simp)).2
    rw [ByteArray.size_append, ByteArray.size_append] at this
    have l1 : (⟨#[32]⟩ : ByteArray).size = 1 := rfl
    show (loadsText (x ++ (⟨#[32]⟩ : ByteArray) ++ milliText v) t).size ≤ _
    rw [List.length_cons]
    omega
theorem line_small (n w s : Nat) (L : List Int) (hn : n < 1000) (hw : w < 1000) (hs : s < 1000) (hl : L.length ≤ 20) (hL : ∀ v ∈ L, 0 ≤ v ∧ v ≤ 100000) : (worldText n w s L).size ≤ 300 := by
  have h := loads_small (headText n w s ++ (⟨#[58]⟩ : ByteArray)) L hL
  unfold worldText
  have zw := num_small w hw
  have zs := num_small s hs
  have zn := num_small n hn
  have l1 : (⟨#[58]⟩ : ByteArray).size = 1 := rfl
  have l2 : (⟨#[32, 119, 97, 114, 109, 32]⟩ : ByteArray).size = 6 := rfl
  have l3 : (⟨#[32, 101, 97, 99, 104, 32]⟩ : ByteArray).size = 6 := rfl
  have zh : (headText n w s).size ≤ 21 := by unfold headText; simp only [ByteArray.size_append, l2, l3]; omega
  rw [ByteArray.size_append] at h
  omega
theorem implLoadsBack : ∀ (M acc : List Int), (∀ v ∈ M, 0 ≤ v ∧ v ≤ 100000) → Ev (fun k => impl_ParseWorld.l0 k (M.map milliText) acc) (some (acc ++ M))
  | [], acc, _ => by
    rw [List.append_nil]
    exact ev_now
  | v :: M, acc, h => by
    have ih := implLoadsBack M (acc ++ [v]) (fun y hy => h y (by simp [hy]))
    have hv := h v (by simp)
    obtain ⟨q, rfl⟩ : ∃ q : Nat, v = (q : Int) := ⟨v.toNat, by omega⟩
    rw [List.map_cons]
    unfold impl_ParseWorld.l0
    refine ev_bind (implParseBack q (by omega)) (ev_pos rfl ?_)
    rw [List.append_assoc] at ih
    exact ih
theorem loads_in (L : List Int) (h : ∀ i, i < L.length → 0 ≤ rd L (i : Int) ∧ rd L (i : Int) ≤ 100000) : ∀ y ∈ L, 0 ≤ y ∧ y ≤ 100000 := by
  intro y hy
  obtain ⟨i, hi, rfl⟩ := List.getElem_of_mem hy
  have := h i hi
  rw [rd_at L i hi] at this
  exact this

section
variable (a b c : Int) (gs : List S48) (p1 : List S101) (u v : Int) (p2 : List S101) (d e m x : Int)
variable (hf : FitsG gs) (hl : gs.length ≤ 1048577) (h1 : p1.length ≤ 1048577) (h2 : p2.length ≤ 1048577)
include hf hl h1 h2

theorem implBack (L : List Int) (w s n : Int) (hok : worldOk a b c gs p1 u v p2 d e m x L w s n = true) :
    Ev (fun k => impl_ParseWorld.f k (worldText n.toNat w.toNat s.toNat L) a b c gs p1 u v p2 d e m x) (a, b, c, gs, p1, u, v, p2, d, e, m, x, L, w, s, n, true) := by
  obtain ⟨hL20, hw, hs, hn, hr⟩ := good_parts a b c gs p1 u v p2 d e m x L w s n hok
  have hin := loads_in L hr
  have s1 := implWorld a b c gs p1 u v p2 d e m x L w s n hf hl h1 h2 (by omega)
  have s2 := implWorldText a b c gs p1 u v p2 d e m x L w s n hf hl h1 h2 (by omega)
  rw [hok] at s1
  rw [if_pos hok] at s2
  obtain ⟨w, rfl⟩ : ∃ q : Nat, w = (q : Int) := ⟨w.toNat, by omega⟩
  obtain ⟨s, rfl⟩ : ∃ q : Nat, s = (q : Int) := ⟨s.toNat, by omega⟩
  obtain ⟨n, rfl⟩ : ∃ q : Nat, n = (q : Int) := ⟨n.toNat, by omega⟩
  rw [Int.toNat_natCast, Int.toNat_natCast, Int.toNat_natCast] at s2 ⊢
  have hz := line_small n w s L (by omega) (by omega) (by omega) (by omega) hin
  have zs := num_small s (by omega)
  have hP : Lib.splitB ⟨#[32]⟩ 0 (Lib.countB (worldText n w s L) ⟨#[32]⟩) (worldText n w s L) = lineB n w s L := bytes_inj ((splitB_parts 32 _).trans (line_parts n w s L hin))
  have hsp : strings_Split.f (worldText n w s L) (⟨#[32]⟩ : ByteArray) = some (lineB n w s L) := by
    rw [← hP]
    exact if_pos ⟨rfl, by omega⟩
  have hlen : (lineB n w s L).length = 5 + L.length := by simp [lineB]; omega
  unfold impl_ParseWorld.f
  refine ev_call hsp (ev_pos (by omega) (ev_call (implCopy a b c gs p1 u v p2 d e m x hl h1 h2) ?_))
  have a1 : impl_atoi.f (rdOf ByteArray.empty (lineB n w s L) 0) = some (n : Int) := by
    show impl_atoi.f (numText n) = _
    unfold impl_atoi.f
    have := num_small n (by omega)
    rw [if_pos (by omega), atoi_num n (by omega)]
  have a2 : impl_atoi.f (rdOf ByteArray.empty (lineB n w s L) 2) = some (w : Int) := by
    show impl_atoi.f (numText w) = _
    unfold impl_atoi.f
    have := num_small w (by omega)
    rw [if_pos (by omega), atoi_num w (by omega)]
  have a3 : strings_TrimSuffix.f (rdOf ByteArray.empty (lineB n w s L) 4) (⟨#[58]⟩ : ByteArray) = some (numText s) := by
    show strings_TrimSuffix.f (numText s ++ (⟨#[58]⟩ : ByteArray)) _ = _
    unfold strings_TrimSuffix.f
    have l1 : (⟨#[58]⟩ : ByteArray).size = 1 := rfl
    rw [if_pos (by rw [ByteArray.size_append]; omega)]
    congr 1
    apply ByteArray.ext
    apply Array.toList_inj.1
    rw [ByteArray.data_append, Array.toList_append]
    show Lib.trimSuffix ((numText s).data.toList ++ [58]) [58] = (numText s).data.toList
    unfold Lib.trimSuffix Lib.hasSuffix
    rw [if_pos (by rw [List.isSuffixOf_iff_suffix]; exact List.suffix_append _ _)]
    simp
  have a4 : impl_atoi.f (numText s) = some (s : Int) := by
    unfold impl_atoi.f
    rw [if_pos (by omega), atoi_num s (by omega)]
  unfold impl_ParseWorld.go
  refine ev_call a1 (ev_call a2 (ev_call a3 (ev_call a4 (ev_bind (implLoadsBack L [] hin) ?_))))
  exact ev_bind s1 (ev_pos rfl (ev_bind s2 (ev_pos rfl ev_now)))
end
end Go.Proofs.YtidkiabehmdofaaGreatDoor.PA
