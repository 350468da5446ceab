/- ParseWorld, the program's and the reference's: both answer yes just where the text is the text of a good world, and then with that world. No condition but that texts fit into memory and lists are of a length that a statement lets pass. -/
import Derived.Test.YtapckgibbhijeaaGreatDoorReadText
import Derived.Test.YtapckgibbhijeaaGreatDoorWorldTextImpl
import Derived.Test.YtapckgibbhijeaaGreatDoorPAx0
import Derived.Test.YtapckgibbhijeaaGreatDoorPAx1
import Derived.Test.YtapckgibbhijeaaGreatDoorPAx2
import Derived.Test.YtapckgibbhijeaaGreatDoorPAx5
namespace Go.Proofs.YtapckgibbhijeaaGreatDoor.PA
open Go.RowKit Go.Proofs.YtapckgibbhijeaaGreatDoorW.PrintWords Go.Proofs.YtapckgibbhijeaaGreatDoorW.PrintLast Go.Proofs.YtapckgibbhijeaaGreatDoorW.PrintMore Go.Proofs.YtapckgibbhijeaaGreatDoor.Aid
set_option linter.unusedVariables false

/-! ### The line of a world, word by word -/
def warmB : ByteArray := ⟨#[119, 97, 114, 109]⟩
def eachB : ByteArray := ⟨#[101, 97, 99, 104]⟩
def lineB (n w s : Nat) (L : List Int) : List ByteArray := numText n :: warmB :: numText w :: eachB :: (numText s ++ (⟨#[58]⟩ : ByteArray)) :: L.map milliText
theorem glue_flat (c : UInt8) (p : List UInt8) (ps : List (List UInt8)) : glue c (p :: ps) = p ++ (ps.map fun q => c :: q).flatten := by
  induction ps generalizing p with
  | nil => simp [glue]
  | cons q r ih =>
    show p ++ c :: glue c (q :: r) = _
    rw [ih]
    simp
theorem loads_flat (x : ByteArray) (L : List Int) : (loadsText x L).data.toList = x.data.toList ++ (L.map fun v => 32 :: (milliText v).data.toList).flatten := by
  induction L generalizing x with
  | nil => simp [loadsText]
  | cons v t ih =>
    show (loadsText (x ++ (⟨#[32]⟩ : ByteArray) ++ milliText v) t).data.toList = _
    rw [ih, ByteArray.data_append, ByteArray.data_append]
    simp
theorem line_glue (n w s : Nat) (L : List Int) : (worldText n w s L).data.toList = glue 32 ((lineB n w s L).map (·.data.toList)) := by
  unfold worldText headText lineB
  rw [loads_flat, List.map_cons, glue_flat]
  simp only [ByteArray.data_append, List.map_cons, List.map_map, warmB, eachB]
  simp [Function.comp_def]
theorem bytes_inj {P Q : List ByteArray} (h : P.map (·.data.toList) = Q.map (·.data.toList)) : P = Q := by
  induction P generalizing Q with
  | nil =>
    cases Q with
    | nil => rfl
    | cons q t => cases h
  | cons p r ih =>
    cases Q with
    | nil => cases h
    | cons q t =>
      injection h with h1 h2
      rw [ih h2, ByteArray.ext (Array.toList_inj.1 h1)]
theorem num_plain (u : Nat) : ∀ b ∈ (numText u).data.toList, b ≠ 32 := by
  rw [numBytes]
  exact fun b h => dig_ne (dec_digits _ b h) (by decide)
theorem milli_plain (v : Int) (h0 : 0 ≤ v) (h1 : v ≤ 100000) : ∀ b ∈ (milliText v).data.toList, b ≠ 32 := by
  obtain ⟨v, rfl⟩ : ∃ q : Nat, v = (q : Int) := ⟨v.toNat, by omega⟩
  rw [milliBytes v (by omega)]
  intro b hb
  rcases List.mem_append.1 hb with hb | hb
  · exact dig_ne (dec_digits _ b hb) (by decide)
  · split at hb
    · cases hb
    · rcases List.mem_cons.1 hb with rfl | hb
      · decide
      · exact dig_ne (frac_digits _ (by omega) b hb) (by decide)
theorem line_parts (n w s : Nat) (L : List Int) (hL : ∀ v ∈ L, 0 ≤ v ∧ v ≤ 100000) : parts 32 (worldText n w s L).data.toList = (lineB n w s L).map (·.data.toList) := by
  rw [line_glue]
  refine parts_glue 32 _ (by simp [lineB]) ?_
  intro p hp
  simp only [lineB, List.map_cons, List.map_map, List.mem_cons, List.mem_map, Function.comp_def] at hp
  rcases hp with rfl | rfl | rfl | rfl | rfl | ⟨v, hv, rfl⟩
  · exact num_plain n
  · decide
  · exact num_plain w
  · decide
  · intro b hb
    rw [ByteArray.data_append, Array.toList_append] at hb
    rcases List.mem_append.1 hb with hb | hb
    · exact num_plain s b hb
    · rw [show (⟨#[58]⟩ : ByteArray).data.toList = [58] from rfl, List.mem_singleton] at hb
      rw [hb]
      decide
  · exact milli_plain v (hL v hv).1 (hL v hv).2
theorem milli_small (v : Int) (h0 : 0 ≤ v) (h1 : v ≤ 100000) : (milliText v).size ≤ 7 := by
  obtain ⟨v, rfl⟩ : ∃ q : Nat, v = (q : Int) := ⟨v.toNat, by omega⟩
  have hz := size_list (milliText (v : Int))
  rw [milliBytes v (by omega), List.length_append] at hz
  have l2 := dec_len3 (v / 1000) (by omega)
  have l3 := frac_len (v % 1000)
  split at hz
  · simp only [List.length_nil] at hz
    omega
  · simp only [List.length_cons] at hz
    omega
theorem num_small (u : Nat) (hu : u < 1000) : (numText u).size ≤ 3 := by
  have hz := size_list (numText u)
  rw [numBytes] at hz
  have := dec_len3 u hu
  omega
theorem loads_small (x : ByteArray) (L : List Int) (hL : ∀ v ∈ L, 0 ≤ v ∧ v ≤ 100000) : (loadsText x L).size ≤ x.size + 8 * L.length := by
  induction L generalizing x with
  | nil => exact Nat.le_refl _
  | cons v t ih =>
    have := ih (x ++ (⟨#[32]⟩ : ByteArray) ++ milliText v) (fun y hy => hL y (by simp [hy]))
    have h := milli_small v (hL v (by simp)).1 (hL v (by simp)).2
    rw [ByteArray.size_append, ByteArray.size_append] at this
    have l1 : (⟨#[32]⟩ : ByteArray).size = 1 := rfl
    show (loadsText (x ++ (⟨#[32]⟩ : ByteArray) ++ milliText v) t).size ≤ _
    rw [List.length_cons]
    omega
theorem line_small (n w s : Nat) (L : List Int) (hn : n < 1000) (hw : w < 1000) (hs : s < 1000) (hl : L.length ≤ 20) (hL : ∀ v ∈ L, 0 ≤ v ∧ v ≤ 100000) : (worldText n w s L).size ≤ 300 := by
  have h := loads_small (headText n w s ++ (⟨#[58]⟩ : ByteArray)) L hL
  unfold worldText
  have zw := num_small w hw
  have zs := num_small s hs
  have zn := num_small n hn
  have l1 : (⟨#[58]⟩ : ByteArray).size = 1 := rfl
  have l2 : (⟨#[32, 119, 97, 114, 109, 32]⟩ : ByteArray).size = 6 := rfl
  have l3 : (⟨#[32, 101, 97, 99, 104, 32]⟩ : ByteArray).size = 6 := rfl
  have zh : (headText n w s).size ≤ 21 := by unfold headText; simp only [ByteArray.size_append, l2, l3]; omega
  rw [ByteArray.size_append] at h
  omega
theorem rd_zero (P : List ByteArray) (i : Nat) : rdOf ByteArray.empty P (i : Int) = P.getD i ByteArray.empty := by
  unfold rdOf
  rw [Int.toNat_natCast]
theorem rd_small (P : List ByteArray) (m : Nat) (h : ∀ x ∈ P, x.size ≤ m) (i : Int) : (rdOf ByteArray.empty P i).size ≤ m := by
  unfold rdOf
  rw [List.getD_eq_getElem?_getD]
  cases hg : P[i.toNat]? with
  | none => exact Nat.zero_le _
  | some x => exact h x (List.mem_of_getElem? hg)

/-! ### The loads -/
theorem implLoads : ∀ (xs : List ByteArray) (acc : List Int), (∀ x ∈ xs, x.size ≤ 4294967280) → ∃ o, Ev (fun k => impl_ParseWorld.l0 k xs acc) o ∧ ∀ L, o = some L → L.length = acc.length + xs.length
  | [], acc, _ => ⟨some acc, ev_now, fun L h => by injection h with h; rw [← h]; rfl⟩
  | x :: xs, acc, h => by
    obtain ⟨r, h1, _⟩ := implParse x (h x (by simp))
    by_cases hr : r.2 = true
    · obtain ⟨o, h2, h3⟩ := implLoads xs (acc ++ [r.1]) (fun y hy => h y (by simp [hy]))
      refine ⟨o, ?_, fun L hL => ?_⟩
      · unfold impl_ParseWorld.l0
        exact ev_bind h1 (ev_pos hr h2)
      · have := h3 L hL
        rw [List.length_append] at this
        simp only [List.length_cons, List.length_nil] at this ⊢
        omega
    · refine ⟨none, ?_, fun L hL => by cases hL⟩
      unfold impl_ParseWorld.l0
      exact ev_bind h1 (ev_neg hr ev_now)
theorem specLoadsP : ∀ (xs : List ByteArray) (acc : List Int), ∃ o, Ev (fun k => spec_ParseWorld.l0 k xs acc) o ∧ ∀ L, o = some L → ∃ M, L = acc ++ M ∧ xs = M.map milliText
  | [], acc => ⟨some acc, ev_now, fun L h => by injection h with h; exact ⟨[], by rw [← h]; simp, rfl⟩⟩
  | x :: xs, acc => by
    obtain ⟨r, h1, h0⟩ := specParse x
    by_cases hr : r.2 = true
    · obtain ⟨o, h2, h3⟩ := specLoadsP xs (acc ++ [r.1])
      refine ⟨o, ?_, fun L hL => ?_⟩
      · unfold spec_ParseWorld.l0
        exact ev_bind h1 (ev_pos hr h2)
      · obtain ⟨M, e1, e2⟩ := h3 L hL
        exact ⟨r.1 :: M, by rw [e1]; simp, by rw [List.map_cons, h0 hr, ← e2]⟩
    · refine ⟨none, ?_, fun L hL => by cases hL⟩
      unfold spec_ParseWorld.l0
      exact ev_bind h1 (ev_neg hr ev_now)
theorem implLoadsBack : ∀ (M acc : List Int), (∀ v ∈ M, 0 ≤ v ∧ v ≤ 100000) → Ev (fun k => impl_ParseWorld.l0 k (M.map milliText) acc) (some (acc ++ M))
  | [], acc, _ => by
    rw [List.append_nil]
    exact ev_now
  | v :: M, acc, h => by
    have ih := implLoadsBack M (acc ++ [v]) (fun y hy => h y (by simp [hy]))
    have hv := h v (by simp)
    obtain ⟨q, rfl⟩ : ∃ q : Nat, v = (q : Int) := ⟨v.toNat, by omega⟩
    rw [List.map_cons]
    unfold impl_ParseWorld.l0
    refine ev_bind (implParseBack q (by omega)) (ev_pos rfl ?_)
    rw [List.append_assoc] at ih
    exact ih
theorem specLoadsBack : ∀ (M acc : List Int), (∀ v ∈ M, 0 ≤ v ∧ v ≤ 100000) → Ev (fun k => spec_ParseWorld.l0 k (M.map milliText) acc) (some (acc ++ M))
  | [], acc, _ => by
    rw [List.append_nil]
    exact ev_now
  | v :: M, acc, h => by
    have ih := specLoadsBack M (acc ++ [v]) (fun y hy => h y (by simp [hy]))
    have hv := h v (by simp)
    obtain ⟨q, rfl⟩ : ∃ q : Nat, v = (q : Int) := ⟨v.toNat, by omega⟩
    rw [List.map_cons]
    unfold spec_ParseWorld.l0
    refine ev_bind (specParseBack q (by omega)) (ev_pos rfl ?_)
    rw [List.append_assoc] at ih
    exact ih

theorem loads_in (L : List Int) (h : ∀ i, i < L.length → 0 ≤ rd L (i : Int) ∧ rd L (i : Int) ≤ 100000) : ∀ y ∈ L, 0 ≤ y ∧ y ≤ 100000 := by
  intro y hy
  obtain ⟨i, hi, rfl⟩ := List.getElem_of_mem hy
  have := h i hi
  rw [rd_at L i hi] at this
  exact this

section
variable (a b c : Int) (gs : List S82) (p1 : List S102) (u v : Int) (p2 : List S102) (d e m x : Int)
/-- The answer that names a good world of this text. -/
def Told (a0 : ByteArray) (r : WorldB) : Prop := ∃ L w s n, worldOk a b c gs p1 u v p2 d e m x L w s n = true ∧ a0 = worldText n.toNat w.toNat s.toNat L ∧ r = (a, b, c, gs, p1, u, v, p2, d, e, m, x, L, w, s, n, true)
variable (hf : FitsG gs) (hl : gs.length ≤ 1048577) (h1 : p1.length ≤ 1048577) (h2 : p2.length ≤ 1048577)
include hf hl h1 h2

/-! ### The program -/
theorem implFin (a0 : ByteArray) (w s n : Int) (o : Option (List Int)) (ho : ∀ L, o = some L → L.length ≤ 1048577) :
    ∃ r, Ev (fun k => impl_ParseWorld.fin k a0 a b c gs p1 u v p2 d e m x w s n o) r ∧ (r = noWorld ∨ Told a b c gs p1 u v p2 d e m x a0 r) := by
  cases o with
  | none => exact ⟨noWorld, ev_now, .inl rfl⟩
  | some L =>
    have hL := ho L rfl
    have s1 := implWorld a b c gs p1 u v p2 d e m x L w s n hf hl h1 h2 hL
    have s2 := implWorldText a b c gs p1 u v p2 d e m x L w s n hf hl h1 h2 hL
    unfold impl_ParseWorld.fin
    cases hok : worldOk a b c gs p1 u v p2 d e m x L w s n with
    | false =>
      rw [hok] at s1
      exact ⟨noWorld, ev_bind s1 (ev_neg (by simp) ev_now), .inl rfl⟩
    | true =>
      rw [hok] at s1
      rw [if_pos hok] at s2
      by_cases he : (worldText n.toNat w.toNat s.toNat L).toList = a0.toList
      · exact ⟨_, ev_bind s1 (ev_pos rfl (ev_bind s2 (ev_pos he ev_now))), .inr ⟨L, w, s, n, hok, (toList_inj.1 he).symm, rfl⟩⟩
      · exact ⟨noWorld, ev_bind s1 (ev_pos rfl (ev_bind s2 (ev_neg he ev_now))), .inl rfl⟩
theorem implGo (a0 : ByteArray) (hs : a0.size ≤ 1048576) (P : List ByteArray) (hP : ∀ y ∈ P, y.size ≤ a0.size) (hl25 : P.length ≤ 25) :
    ∃ r, Ev (fun k => impl_ParseWorld.go k a0 P a b c gs p1 u v p2 d e m x) r ∧ (r = noWorld ∨ Told a b c gs p1 u v p2 d e m x a0 r) := by
  have z0 := rd_small P a0.size hP 0
  have z2 := rd_small P a0.size hP 2
  have z4 := rd_small P a0.size hP 4
  have zt : (⟨(Lib.trimSuffix (rdOf ByteArray.empty P 4).data.toList [58]).toArray⟩ : ByteArray).size ≤ (rdOf ByteArray.empty P 4).size := by
    have : (Lib.trimSuffix (rdOf ByteArray.empty P 4).data.toList [58]).length ≤ (rdOf ByteArray.empty P 4).data.toList.length := by
      unfold Lib.trimSuffix
      split
      · rw [List.length_take]; omega
      · exact Nat.le_refl _
    rw [size_list] at this
    show (Lib.trimSuffix (rdOf ByteArray.empty P 4).data.toList [58]).toArray.size ≤ _
    rw [List.size_toArray]
    exact this
  obtain ⟨o, h3, h4⟩ := implLoads (P.drop 5) [] (fun y hy => by have := hP y (List.mem_of_mem_drop hy); omega)
  obtain ⟨r, h5, h6⟩ := implFin a b c gs p1 u v p2 d e m x hf hl h1 h2 a0 (atoiOr (rdOf ByteArray.empty P 2).data.toList) (atoiOr (Lib.trimSuffix (rdOf ByteArray.empty P 4).data.toList [58])) (atoiOr (rdOf ByteArray.empty P 0).data.toList) o (fun L hL => by
    have := h4 L hL
    rw [List.length_drop, List.length_nil] at this
    omega)
  refine ⟨r, ?_, h6⟩
  unfold impl_ParseWorld.go
  refine ev_call (if_pos (by omega)) (ev_call (if_pos (by omega)) (ev_call (if_pos (by omega)) (ev_call (if_pos ?_) (ev_bind h3 h5))))
  exact Nat.le_trans zt (by omega)
theorem implParseW (a0 : ByteArray) (hs : a0.size ≤ 1048576) :
    ∃ r, Ev (fun k => impl_ParseWorld.f k a0 a b c gs p1 u v p2 d e m x) r ∧ (r = noWorld ∨ Told a b c gs p1 u v p2 d e m x a0 r) := by
  have hp := splitB_parts 32 a0
  have hsm := parts_small a0 _ hp
  have hsp : strings_Split.f a0 (⟨#[32]⟩ : ByteArray) = some (Lib.splitB ⟨#[32]⟩ 0 (Lib.countB a0 ⟨#[32]⟩) a0) := if_pos ⟨rfl, by omega⟩
  unfold impl_ParseWorld.f
  by_cases h : 6 ≤ (Lib.splitB ⟨#[32]⟩ 0 (Lib.countB a0 ⟨#[32]⟩) a0).length ∧ (Lib.splitB ⟨#[32]⟩ 0 (Lib.countB a0 ⟨#[32]⟩) a0).length ≤ 25
  · obtain ⟨r, h3, h4⟩ := implGo a b c gs p1 u v p2 d e m x hf hl h1 h2 a0 hs _ hsm h.2
    exact ⟨r, ev_call hsp (ev_pos h (ev_call (implCopy a b c gs p1 u v p2 d e m x hl h1 h2) h3)), h4⟩
  · exact ⟨noWorld, ev_call hsp (ev_neg h ev_now), .inl rfl⟩

/-! ### The reference -/
theorem specFin (P : List ByteArray) (w s n : Int) (hw : 0 ≤ w → rdOf ByteArray.empty P 2 = numText w.toNat) (hs : 0 ≤ s → (rdOf ByteArray.empty P 4).extract 0 ((rdOf ByteArray.empty P 4).size - 1) = numText s.toNat)
    (hn : 0 ≤ n → rdOf ByteArray.empty P 0 = numText n.toNat) (hh : spec_ParseWorld.head P = true) (o : Option (List Int)) (a0 : ByteArray) (hp : P.map (·.data.toList) = parts 32 a0.data.toList) (hpl : P.length ≤ 1000)
    (ho : ∀ L, o = some L → P.drop 5 = L.map milliText) :
    ∃ r, Ev (fun k => spec_ParseWorld.fin k a b c gs p1 u v p2 d e m x w s n o) r ∧ (r = noWorld ∨ Told a b c gs p1 u v p2 d e m x a0 r) := by
  cases o with
  | none => exact ⟨noWorld, ev_now, .inl rfl⟩
  | some L =>
    have hd := ho L rfl
    have hL : L.length ≤ 1048577 := by
      have := congrArg List.length hd
      rw [List.length_drop, List.length_map] at this
      omega
    have s1 := specWorld a b c gs p1 u v p2 d e m x L w s n hf hl h1 h2 hL
    unfold spec_ParseWorld.fin
    cases hok : worldOk a b c gs p1 u v p2 d e m x L w s n with
    | false =>
      rw [hok] at s1
      exact ⟨noWorld, ev_bind s1 (ev_neg (by simp) ev_now), .inl rfl⟩
    | true =>
      rw [hok] at s1
      refine ⟨_, ev_bind s1 (ev_pos rfl ev_now), .inr ⟨L, w, s, n, hok, ?_, rfl⟩⟩
      obtain ⟨_, gw, gs', gn, _⟩ := good_parts a b c gs p1 u v p2 d e m x L w s n hok
      have ew := hw gw.1
      have es := hs (by omega)
      have en := hn (by omega)
      simp only [spec_ParseWorld.head, Bool.and_eq_true, decide_eq_true_eq, beq_iff_eq] at hh
      obtain ⟨hh0, hh1, hh3, hh4, hh5⟩ := hh
      have hP : P = lineB n.toNat w.toNat s.toNat L := by
        match P, hh0, hd, ew, es, en, hh1, hh3, hh4, hh5 with
        | q0 :: q1 :: q2 :: q3 :: q4 :: q5, _, hd, ew, es, en, hh1, hh3, hh4, hh5 =>
          have e0 : q0 = numText n.toNat := en
          have e1 : q1 = warmB := toList_inj.1 (hh1.trans (by rw [ByteArray.toList_eq]; rfl))
          have e2 : q2 = numText w.toNat := ew
          have e3 : q3 = eachB := toList_inj.1 (hh3.trans (by rw [ByteArray.toList_eq]; rfl))
          have e5 : q5 = L.map milliText := hd
          have e4 : q4 = numText s.toNat ++ (⟨#[58]⟩ : ByteArray) := by
            have f1 : q4.extract 0 (q4.size - 1) = numText s.toNat := es
            have f2 : 2 ≤ q4.size := hh4
            have f3 : bt q4 ((q4.size : Int) - 1) = 58 := hh5
            rw [← f1]
            have f4 : ((q4.size : Int) - 1) = ((q4.size - 1 : Nat) : Int) := by omega
            rw [f4, ← bt_at q4 _ (by rw [Int.toNat_natCast]; omega)] at f3
            simp only [Int.toNat_natCast] at f3
            apply ByteArray.ext
            apply Array.toList_inj.1
            rw [ByteArray.data_append, Array.toList_append, ByteArray.data_extract, Array.toList_extract, List.extract_eq_take_drop]
            have f5 : q4.data.toList.length = (q4.size - 1) + 1 := by rw [size_list]; omega
            have f6 : q4.data.toList = q4.data.toList.take (q4.size - 1) ++ [q4.data.toList[q4.size - 1]'(by omega)] := by
              rw [← List.take_succ_eq_append_getElem (by omega), ← f5, List.take_length]
            have f7 : q4.data.toList[q4.size - 1]'(by omega) = 58 := by
              apply UInt8.toNat_inj.1
              have f8 : ((q4.data.toList[q4.size - 1]'(by omega)).toNat : Int) = 58 := f3
              have f9 : ((58 : UInt8).toNat : Int) = 58 := rfl
              omega
            rw [f7] at f6
            rw [List.drop_zero, Nat.sub_zero]
            exact f6
          rw [e0, e1, e2, e3, e4, e5]
          rfl
      apply ByteArray.ext
      apply Array.toList_inj.1
      rw [line_glue, ← hP, hp, glue_parts]
theorem specParseW (a0 : ByteArray) :
    ∃ r, Ev (fun k => spec_ParseWorld.f k a0 a b c gs p1 u v p2 d e m x) r ∧ (r = noWorld ∨ Told a b c gs p1 u v p2 d e m x a0 r) := by
  unfold spec_ParseWorld.f
  by_cases hz : 300 < a0.size
  · exact ⟨noWorld, ev_pos hz ev_now, .inl rfl⟩
  · obtain ⟨P, hp0, hp⟩ := specParts a0 (by omega)
    have hsm := parts_small a0 P hp
    have hmany := parts_many a0 P hp
    have z4 := rd_small P a0.size hsm 4
    have hnn : ¬ (1000 < (rdOf ByteArray.empty P 4).size ∨ 1000 < P.length) := by omega
    by_cases hh : spec_ParseWorld.head P = true
    · obtain ⟨rn, n1, n2⟩ := specRead (rdOf ByteArray.empty P 0)
      obtain ⟨rw', w1, w2⟩ := specRead (rdOf ByteArray.empty P 2)
      obtain ⟨rs, s1, s2⟩ := specRead ((rdOf ByteArray.empty P 4).extract 0 ((rdOf ByteArray.empty P 4).size - 1))
      by_cases hy : rn.2 = true ∧ rw'.2 = true ∧ rs.2 = true
      · obtain ⟨o, o1, o2⟩ := specLoadsP (P.drop 5) []
        obtain ⟨r, h3, h4⟩ := specFin a b c gs p1 u v p2 d e m x hf hl h1 h2 P rw'.1 rs.1 rn.1 (w2 hy.2.1) (s2 hy.2.2) (n2 hy.1) hh o a0 hp (by omega) (fun L hL => by
          obtain ⟨M, e1, e2⟩ := o2 L hL
          rw [e2, e1]
          rfl)
        exact ⟨r, ev_neg hz (ev_bind hp0 (ev_neg hnn (ev_pos hh (ev_bind n1 (ev_bind w1 (ev_bind s1 (ev_pos hy (ev_bind (specCopy a b c gs p1 u v p2 d e m x hl h1 h2) (ev_bind o1 h3))))))))), h4⟩
      · exact ⟨noWorld, ev_neg hz (ev_bind hp0 (ev_neg hnn (ev_pos hh (ev_bind n1 (ev_bind w1 (ev_bind s1 (ev_neg hy ev_now))))))), .inl rfl⟩
    · exact ⟨noWorld, ev_neg hz (ev_bind hp0 (ev_neg hnn (ev_neg hh ev_now))), .inl rfl⟩

/-! ### Back -/
theorem implBack (L : List Int) (w s n : Int) (hok : worldOk a b c gs p1 u v p2 d e m x L w s n = true) :
    Ev (fun k => impl_ParseWorld.f k (worldText n.toNat w.toNat s.toNat L) a b c gs p1 u v p2 d e m x) (a, b, c, gs, p1, u, v, p2, d, e, m, x, L, w, s, n, true) := by
  obtain ⟨hL20, hw, hs, hn, hr⟩ := good_parts a b c gs p1 u v p2 d e m x L w s n hok
  have hin := loads_in L hr
  have s1 := implWorld a b c gs p1 u v p2 d e m x L w s n hf hl h1 h2 (by omega)
  have s2 := implWorldText a b c gs p1 u v p2 d e m x L w s n hf hl h1 h2 (by omega)
  rw [hok] at s1
  rw [if_pos hok] at s2
  obtain ⟨w, rfl⟩ : ∃ q : Nat, w = (q : Int) := ⟨w.toNat, by omega⟩
  obtain ⟨s, rfl⟩ : ∃ q : Nat, s = (q : Int) := ⟨s.toNat, by omega⟩
  obtain ⟨n, rfl⟩ : ∃ q : Nat, n = (q : Int) := ⟨n.toNat, by omega⟩
  rw [Int.toNat_natCast, Int.toNat_natCast, Int.toNat_natCast] at s2 ⊢
  have hz := line_small n w s L (by omega) (by omega) (by omega) (by omega) hin
  have zs := num_small s (by omega)
  have hP : Lib.splitB ⟨#[32]⟩ 0 (Lib.countB (worldText n w s L) ⟨#[32]⟩) (worldText n w s L) = lineB n w s L := bytes_inj ((splitB_parts 32 _).trans (line_parts n w s L hin))
  have hsp : strings_Split.f (worldText n w s L) (⟨#[32]⟩ : ByteArray) = some (lineB n w s L) := by
    rw [← hP]
    exact if_pos ⟨rfl, by omega⟩
  have hlen : (lineB n w s L).length = 5 + L.length := by simp [lineB]; omega
  unfold impl_ParseWorld.f
  refine ev_call hsp (ev_pos (by omega) (ev_call (implCopy a b c gs p1 u v p2 d e m x hl h1 h2) ?_))
  have a1 : impl_atoi.f (rdOf ByteArray.empty (lineB n w s L) 0) = some (n : Int) := by
    show impl_atoi.f (numText n) = _
    unfold impl_atoi.f
    have := num_small n (by omega)
    rw [if_pos (by omega), atoi_num n (by omega)]
  have a2 : impl_atoi.f (rdOf ByteArray.empty (lineB n w s L) 2) = some (w : Int) := by
    show impl_atoi.f (numText w) = _
    unfold impl_atoi.f
    have := num_small w (by omega)
    rw [if_pos (by omega), atoi_num w (by omega)]
  have a3 : strings_TrimSuffix.f (rdOf ByteArray.empty (lineB n w s L) 4) (⟨#[58]⟩ : ByteArray) = some (numText s) := by
    show strings_TrimSuffix.f (numText s ++ (⟨#[58]⟩ : ByteArray)) _ = _
    unfold strings_TrimSuffix.f
    have l1 : (⟨#[58]⟩ : ByteArray).size = 1 := rfl
    rw [if_pos (by rw [ByteArray.size_append]; omega)]
    congr 1
    apply ByteArray.ext
    apply Array.toList_inj.1
    rw [ByteArray.data_append, Array.toList_append]
    show Lib.trimSuffix ((numText s).data.toList ++ [58]) [58] = (numText s).data.toList
    unfold Lib.trimSuffix Lib.hasSuffix
    rw [if_pos (by rw [List.isSuffixOf_iff_suffix]; exact List.suffix_append _ _)]
    simp
  have a4 : impl_atoi.f (numText s) = some (s : Int) := by
    unfold impl_atoi.f
    rw [if_pos (by omega), atoi_num s (by omega)]
  unfold impl_ParseWorld.go
  refine ev_call a1 (ev_call a2 (ev_call a3 (ev_call a4 (ev_bind (implLoadsBack L [] hin) ?_))))
  exact ev_bind s1 (ev_pos rfl (ev_bind s2 (ev_pos rfl ev_now)))
theorem specBack (L : List Int) (w s n : Int) (hok : worldOk a b c gs p1 u v p2 d e m x L w s n = true) :
    Ev (fun k => spec_ParseWorld.f k (worldText n.toNat w.toNat s.toNat L) a b c gs p1 u v p2 d e m x) (a, b, c, gs, p1, u, v, p2, d, e, m, x, L, w, s, n, true) := by
  obtain ⟨hL20, hw, hs, hn, hr⟩ := good_parts a b c gs p1 u v p2 d e m x L w s n hok
  have hin := loads_in L hr
  have s1 := specWorld a b c gs p1 u v p2 d e m x L w s n hf hl h1 h2 (by omega)
  rw [hok] at s1
  obtain ⟨w, rfl⟩ : ∃ q : Nat, w = (q : Int) := ⟨w.toNat, by omega⟩
  obtain ⟨s, rfl⟩ : ∃ q : Nat, s = (q : Int) := ⟨s.toNat, by omega⟩
  obtain ⟨n, rfl⟩ : ∃ q : Nat, n = (q : Int) := ⟨n.toNat, by omega⟩
  rw [Int.toNat_natCast, Int.toNat_natCast, Int.toNat_natCast]
  have hz := line_small n w s L (by omega) (by omega) (by omega) (by omega) hin
  have zs := num_small s (by omega)
  obtain ⟨P, hp0, hp⟩ := specParts (worldText n w s L) (by omega)
  have hP : P = lineB n w s L := bytes_inj (hp.trans (line_parts n w s L hin))
  subst hP
  have hlen : (lineB n w s L).length = 5 + L.length := by simp [lineB]; omega
  have l1 : (⟨#[58]⟩ : ByteArray).size = 1 := rfl
  have e4 : rdOf ByteArray.empty (lineB n w s L) 4 = numText s ++ (⟨#[58]⟩ : ByteArray) := rfl
  have z4 : (numText s ++ (⟨#[58]⟩ : ByteArray)).size = (numText s).size + 1 := by rw [ByteArray.size_append, l1]
  have z0 : 1 ≤ (numText s).size := by
    have := size_list (numText s)
    rw [numBytes] at this
    have := List.length_pos_iff.2 (dec_ne s)
    omega
  have hb : (numText s ++ (⟨#[58]⟩ : ByteArray)).data.toList = (numText s).data.toList ++ [58] := by rw [ByteArray.data_append, Array.toList_append]
  have x4 : (numText s ++ (⟨#[58]⟩ : ByteArray)).extract 0 ((numText s ++ (⟨#[58]⟩ : ByteArray)).size - 1) = numText s := by
    apply ByteArray.ext
    apply Array.toList_inj.1
    rw [ByteArray.data_extract, Array.toList_extract, List.extract_eq_take_drop, hb, z4]
    rw [show (numText s).size + 1 - 1 - 0 = (numText s).data.toList.length by rw [size_list]; omega]
    simp
  have hh : spec_ParseWorld.head (lineB n w s L) = true := by
    unfold spec_ParseWorld.head
    rw [e4]
    have b1 : ((rdOf ByteArray.empty (lineB n w s L) 1).toList == ([119, 97, 114, 109] : List UInt8)) = true := by rw [ByteArray.toList_eq]; rfl
    have b3 : ((rdOf ByteArray.empty (lineB n w s L) 3).toList == ([101, 97, 99, 104] : List UInt8)) = true := by rw [ByteArray.toList_eq]; rfl
    have b5 : bt (numText s ++ (⟨#[58]⟩ : ByteArray)) (((numText s ++ (⟨#[58]⟩ : ByteArray)).size : Int) - 1) = 58 := by
      rw [z4, show (((numText s).size + 1 : Nat) : Int) - 1 = (((numText s).size : Nat) : Int) by omega]
      exact (bt_list _ (numText s).size 58 (by rw [hb, ← size_list]; simp)).1
    rw [b1, b3, decide_eq_true b5, decide_eq_true (show 6 ≤ (lineB n w s L).length by omega), decide_eq_true (show 2 ≤ (numText s ++ (⟨#[58]⟩ : ByteArray)).size by omega)]
    rfl
  unfold spec_ParseWorld.f
  refine ev_neg (by omega) (ev_bind hp0 (ev_neg (by rw [e4]; omega) (ev_pos hh ?_)))
  rw [e4, x4]
  refine ev_bind (specReadBack n (by omega)) (ev_bind (specReadBack w (by omega)) (ev_bind (specReadBack s (by omega)) (ev_pos ⟨rfl, rfl, rfl⟩ (ev_bind (specCopy a b c gs p1 u v p2 d e m x hl h1 h2) (ev_bind (specLoadsBack L [] hin) ?_)))))
  exact ev_bind s1 (ev_pos rfl ev_now)
/-- Both answer the same: no world, or the good world of this text. -/
theorem parseSame (a0 : ByteArray) (hs : a0.size ≤ 1048576) : ∃ r, Ev (fun k => spec_ParseWorld.f k a0 a b c gs p1 u v p2 d e m x) r ∧ Ev (fun k => impl_ParseWorld.f k a0 a b c gs p1 u v p2 d e m x) r ∧ (r = noWorld ∨ Told a b c gs p1 u v p2 d e m x a0 r) := by
  obtain ⟨ri, i1, i2⟩ := implParseW a b c gs p1 u v p2 d e m x hf hl h1 h2 a0 hs
  obtain ⟨rs, s1, s2⟩ := specParseW a b c gs p1 u v p2 d e m x hf hl h1 h2 a0
  rcases i2 with rfl | ⟨L, w, s, n, hok, rfl, rfl⟩
  · rcases s2 with rfl | ⟨L, w, s, n, hok, rfl, rfl⟩
    · exact ⟨noWorld, s1, i1, .inl rfl⟩
    · have := implBack a b c gs p1 u v p2 d e m x hf hl h1 h2 L w s n hok
      exact ⟨_, s1, this, .inr ⟨L, w, s, n, hok, rfl, rfl⟩⟩
  · have := specBack a b c gs p1 u v p2 d e m x hf hl h1 h2 L w s n hok
    exact ⟨_, this, i1, .inr ⟨L, w, s, n, hok, rfl, rfl⟩⟩
end
end Go.Proofs.YtapckgibbhijeaaGreatDoor.PA
