/- The law FnExactReadDiary in plain words: the printed law answers true. -/
import Derived.Test.YtenfegfoaobehaaDoorRdR
namespace Go.Proofs.YtenfegfoaobehaaDoor.RdP
open Go.RowKit Go.Proofs.YtenfegfoaobehaaDoorW.PrintWords Go.Proofs.YtenfegfoaobehaaDoorW.PrintLast Go.Proofs.YtenfegfoaobehaaDoorW.PrintMore Go.Proofs.YtenfegfoaobehaaDoor Go.Proofs.YtenfegfoaobehaaDoor.Rd Go.Proofs.YtenfegfoaobehaaDoor.Num Go.Proofs.YtenfegfoaobehaaDoor.Spl
set_option linter.unusedSimpArgs false
set_option linter.unusedVariables false

theorem lines_at (LL : List (List UInt8)) (i : Nat) (h : i < LL.length) : rdOf ByteArray.empty (LL.map mkB) (i : Int) = mkB LL[i] := by
  unfold rdOf
  rw [Int.toNat_natCast, getD_lt _ _ (by simpa using h)]
  simp
theorem spec_loop (LL : List (List UInt8)) (N : Nat) (hN : N ≤ 1048576) (hLN : ∀ l ∈ LL, l.length ≤ N) (hl : 0 < LL.length) (h100 : LL.length - 1 ≤ 100) (hlast : LL[LL.length - 1]'(by omega) = []) (d : Nat) : ∀ (k i : Nat) (out : List E), i ≤ LL.length - 1 → LL.length - 1 - i = d → out.length = i → 20 * d + N + 100 ≤ k →
    spec_ReadDiary.l0 k (LL.map mkB) ((LL.length - 1 : Nat) : Int) out (i : Int) = some (rd out (LL.drop i)) := by
  induction d with
  | zero =>
    intro k i out h1 h2 h3 h4
    obtain ⟨k, rfl⟩ : ∃ m, k = m + 1 := ⟨k - 1, by omega⟩
    obtain rfl : i = LL.length - 1 := by omega
    rw [spec_ReadDiary.l0, if_neg (by omega), List.drop_eq_getElem_cons (by omega), List.drop_of_length_le (by omega), hlast]
    rfl
  | succ d ih =>
    intro k i out h1 h2 h3 h4
    obtain ⟨k, rfl⟩ : ∃ m, k = m + 7 := ⟨k - 7, by omega⟩
    have hlt : i < LL.length := by omega
    have hsz : (mkB LL[i]).size ≤ N := by rw [Lib.size_eq, data_mkB]; exact hLN _ (List.getElem_mem hlt)
    rw [spec_ReadDiary.l0, if_pos (by omega), if_pos (by omega), if_pos (by rw [List.length_map]; omega), lines_at LL i hlt]
    have hp := split_f 32 (mkB LL[i]) (by omega) (k + 6) (by omega)
    rw [data_mkB] at hp
    have e32 : (((32 : UInt8).toNat : Nat) : Int) = 32 := rfl
    rw [e32] at hp
    rw [hp, Option.bind_some]
    have hne : 0 < (pieces 32 LL[i]).length := by
      have := spl_ne 32 LL[i]
      simp only [pieces, List.length_map]
      exact List.length_pos_iff.2 this
    rw [spec_line _ _ _ _ _ hne (by omega) k (by omega), List.drop_eq_getElem_cons hlt, rd_cons _ _ _ (by
      intro h
      have := congrArg List.length h
      simp at this
      omega), if_neg (by omega)]
    cases lineE (pieces 32 LL[i]) with
    | none => rfl
    | some e =>
      simp only
      have hw := widx_le (rdOf ByteArray.empty (pieces 32 LL[i]) 0)
      rw [wrap_next i LL.length hlt (by omega)]
      exact ih _ (i + 1) (out ++ [e]) (by omega) (by omega) (by simp; omega) (by omega)
theorem spec_main (s : ByteArray) (hs : s.size ≤ 1048576) (k : Nat) (hk : 2 * s.size + 3000 ≤ k) : spec_ReadDiary.f k s = some (rd [] (spl 10 s.data.toList)) := by
  have hp := split_f 10 s hs k (by omega)
  have e10 : (((10 : UInt8).toNat : Nat) : Int) = 10 := rfl
  rw [e10] at hp
  unfold spec_ReadDiary.f
  rw [hp, Option.bind_some]
  unfold pieces
  have hne := spl_ne 10 s.data.toList
  have hLN := fun l hl => spl_len 10 s.data.toList l hl
  have hlen : (spl 10 s.data.toList).length ≤ s.size + 1 := by
    have : ∀ l : List UInt8, (spl 10 l).length ≤ l.length + 1 := by
      intro l
      induction l with
      | nil => simp [spl]
      | cons b r ih =>
        unfold spl
        split
        · simp; omega
        · cases h : spl 10 r with
          | nil => simp
          | cons p ps => rw [h] at ih; simp at ih ⊢; omega
    rw [Lib.size_eq]
    exact this _
  rw [← size_len] at hLN
  generalize spl 10 s.data.toList = LL at hne hLN hlen
  have hpos : 0 < LL.length := List.length_pos_iff.2 hne
  have e : wrap64 (((LL.map mkB).length : Int) - 1) = ((LL.length - 1 : Nat) : Int) := by rw [List.length_map]; unfold wrap64; omega
  have hlast : LL.getLast hne = LL[LL.length - 1]'(by omega) := List.getLast_eq_getElem hne
  rw [e, if_pos (by omega), if_pos (by rw [List.length_map]; omega), lines_at LL _ (by omega)]
  obtain ⟨k, rfl⟩ : ∃ m, k = m + 1 := ⟨k - 1, by omega⟩
  by_cases h1 : LL[LL.length - 1]'(by omega) = []
  · rw [if_pos ((toList_nil _).2 (by rw [data_mkB]; exact h1))]
    by_cases h2 : LL.length - 1 ≤ 100
    · rw [decide_eq_false (by omega), spec_ReadDiary.j0, if_neg (by simp)]
      have := spec_loop LL s.size hs hLN hpos h2 h1 (LL.length - 1) k 0 [] (by omega) (by omega) rfl (by omega)
      simpa using this
    · rw [decide_eq_true (by omega), spec_ReadDiary.j0, if_pos rfl, rd_bad LL [] hne (by simp) (.inr (by simp; omega))]
  · rw [if_neg (fun h => h1 (by have := (toList_nil _).1 h; rwa [data_mkB] at this)), spec_ReadDiary.j0, if_pos rfl, rd_bad LL [] hne (by simp) (.inl (by rw [hlast]; exact h1))]

/-! ## Marks -/
theorem rd_at (l : List E) (i : Nat) (h : i < l.length) : rd_T37 l (i : Int) = l[i] := by
  unfold rd_T37; rw [Int.toNat_natCast, getD_lt _ _ h]
theorem eq_loop (l : List E) (hn : l.length ≤ 1048576) (d : Nat) : ∀ (k i : Nat), i ≤ l.length → l.length - i = d → d < k → laws_eqEntryS.l0 k l l i = some true := by
  induction d with
  | zero =>
    intro k i h1 h2 h3
    obtain ⟨k, rfl⟩ : ∃ m, k = m + 1 := ⟨k - 1, by omega⟩
    simp only [laws_eqEntryS.l0]
    rw [if_neg (by omega)]
  | succ d ih =>
    intro k i h1 h2 h3
    obtain ⟨k, rfl⟩ : ∃ m, k = m + 1 := ⟨k - 1, by omega⟩
    have hlt : i < l.length := by omega
    simp only [laws_eqEntryS.l0, laws_eqEntry.f]
    rw [if_pos (by omega), if_pos (by omega), if_pos (by omega)]
    simp only [if_true, Option.bind_some]
    rw [wrap_next i l.length hlt (by omega)]
    exact ih k (i + 1) (by omega) (by omega) (by omega)
theorem eq_f (l : List E) (hn : l.length ≤ 1048576) (k : Nat) (hk : l.length < k) : laws_eqEntryS.f k l l = some true := by
  unfold laws_eqEntryS.f
  rw [if_pos rfl]
  exact eq_loop l hn l.length _ 0 (by omega) (by omega) (by omega)
def mkE (m : Nat) : E := ⟨IntKind.i8.wrap (m : Int), IntKind.i16.wrap ((m + 1 : Nat) : Int), IntKind.i16.wrap ((m + 2 : Nat) : Int)⟩
theorem w3n (m : Nat) (h : m ≤ 9000000) : wrap64 ((m : Int) + 1) = ((m + 1 : Nat) : Int) ∧ wrap64 (((m + 1 : Nat) : Int) + 1) = ((m + 2 : Nat) : Int) ∧ wrap64 (((m + 2 : Nat) : Int) + 1) = ((m + 3 : Nat) : Int) := by
  refine ⟨?_, ?_, ?_⟩ <;> (unfold wrap64; omega)
theorem mark_loop (n : Nat) (hn : n ≤ 100) (d : Nat) : ∀ (k i : Nat) (l : List E), l.length = n → i ≤ n → n - i = d → d < k → (∀ j (h : j < l.length), j < i → l[j] = mkE (1 + 3 * j)) →
    ∃ r : List E, laws_markEntryS.l0 k l ((1 + 3 * i : Nat) : Int) (i : Int) = some (((1 + 3 * n : Nat) : Int), r) ∧ r.length = n ∧ ∀ j (h : j < r.length), r[j] = mkE (1 + 3 * j) := by
  induction d with
  | zero =>
    intro k i l hl h1 h2 h3 h4
    obtain ⟨k, rfl⟩ : ∃ m, k = m + 1 := ⟨k - 1, by omega⟩
    obtain rfl : i = n := by omega
    refine ⟨l, ?_, hl, fun j h => h4 j h (by omega)⟩
    rw [laws_markEntryS.l0, if_neg (by omega)]
  | succ d ih =>
    intro k i l hl h1 h2 h3 h4
    obtain ⟨k, rfl⟩ : ∃ m, k = m + 1 := ⟨k - 1, by omega⟩
    have hlt : i < l.length := by omega
    obtain ⟨e1, e2, e3⟩ := w3n (1 + 3 * i) (by omega)
    rw [laws_markEntryS.l0, if_pos (by omega), if_pos (by omega)]
    simp only [Option.bind_some]
    rw [e1, e2, e3, Int.toNat_natCast, wrap_next i n (by omega) (by omega)]
    rw [rd_at l i hlt, rd_at _ i (by simpa using hlt)]
    simp only [List.getElem_set_self, List.set_set]
    rw [rd_at _ i (by simpa using hlt)]
    simp only [List.getElem_set_self, List.set_set]
    have := ih k (i + 1) (l.set i (mkE (1 + 3 * i))) (by simpa using hl) (by omega) (by omega) (by omega) (by
      intro j h hj
      by_cases hji : i = j
      · subst hji; simp
      · rw [List.getElem_set_ne hji]
        exact h4 j _ (by omega))
    rw [show 1 + 3 * (i + 1) = 1 + 3 * i + 3 by omega] at this
    exact this
theorem held_loop (l : List E) (hn : l.length ≤ 100) (hl : ∀ j (h : j < l.length), l[j] = mkE (1 + 3 * j)) (d : Nat) : ∀ (k i : Nat), i ≤ l.length → l.length - i = d → d < k →
    laws_heldEntryS.l0 k l ((1 + 3 * i : Nat) : Int) (i : Int) = some ((1 + 3 * l.length : Nat) : Int) := by
  induction d with
  | zero =>
    intro k i h1 h2 h3
    obtain ⟨k, rfl⟩ : ∃ m, k = m + 1 := ⟨k - 1, by omega⟩
    obtain rfl : i = l.length := by omega
    rw [laws_heldEntryS.l0, if_neg (by omega)]
  | succ d ih =>
    intro k i h1 h2 h3
    obtain ⟨k, rfl⟩ : ∃ m, k = m + 1 := ⟨k - 1, by omega⟩
    have hlt : i < l.length := by omega
    obtain ⟨e1, e2, e3⟩ := w3n (1 + 3 * i) (by omega)
    rw [laws_heldEntryS.l0, if_pos (by omega), if_pos (by omega), rd_at l i hlt, hl i hlt, e1, e2, e3]
    rw [if_pos (show (mkE (1 + 3 * i)).f0 = IntKind.i8.wrap ((1 + 3 * i : Nat) : Int) from rfl), if_pos (show (mkE (1 + 3 * i)).f1 = IntKind.i16.wrap ((1 + 3 * i + 1 : Nat) : Int) from rfl), if_pos (show (mkE (1 + 3 * i)).f2 = IntKind.i16.wrap ((1 + 3 * i + 2 : Nat) : Int) from rfl), wrap_next i l.length hlt (by omega)]
    exact ih k (i + 1) (by omega) (by omega) (by omega)

theorem rd_law (s : ByteArray) : ∃ k, laws_FnExactReadDiary.f k s = some true := by
  by_cases hbig : (s.size : Int) > 1048576
  · exact ⟨0, by unfold laws_FnExactReadDiary.f; rw [if_pos hbig]⟩
  · have hs : s.size ≤ 1048576 := by omega
    obtain ⟨k, hk⟩ : ∃ k, k = 4 * s.size + 5000 := ⟨_, rfl⟩
    refine ⟨k + 2, ?_⟩
    have hsp := spec_main s hs (k + 2) (by omega)
    have him : ∀ k', k ≤ k' → impl_ReadDiary.f k' s = some (rd [] (spl 10 s.data.toList)) := fun k' h => impl_main s.size s [] k' (by omega) hs (by simp) (by omega)
    have hlen := rd_len (spl 10 s.data.toList) [] (by simp)
    generalize rd [] (spl 10 s.data.toList) = R at hsp him hlen
    obtain ⟨l, code⟩ := R
    simp only at hlen
    have hq : ∀ k', k ≤ k' → laws_eqEntryS.f k' l l = some true := fun k' h => eq_f l (by omega) k' (by omega)
    obtain ⟨r, hm, hr, hrj⟩ := mark_loop l.length hlen l.length (k + 1) 0 l rfl (by omega) (by omega) (by omega) (by intro j _ h; omega)
    have hm' : laws_markEntryS.f (k + 1) l 1 = some (((1 + 3 * l.length : Nat) : Int), r) := hm
    have hh : ∀ k', k ≤ k' → laws_heldEntryS.f k' r 1 = some ((1 + 3 * l.length : Nat) : Int) := by
      intro k' h
      have := held_loop r (by omega) hrj r.length k' 0 (by omega) (by omega) (by omega)
      rw [hr] at this
      exact this
    unfold laws_FnExactReadDiary.f
    rw [if_neg hbig, hsp, Option.bind_some, him (k + 2) (by omega), Option.bind_some]
    simp only
    rw [hq (k + 2) (by omega), Option.bind_some, if_pos rfl]
    rw [show (code != code) = false from bne_self_eq_false code]
    rw [laws_FnExactReadDiary.j0, if_neg (by simp), hm', Option.bind_some]
    simp only
    rw [hh (k + 1) (by omega), Option.bind_some, if_neg (by omega), if_pos rfl, him (k + 1) (by omega), Option.bind_some]
    simp only
    rw [hq (k + 1) (by omega), Option.bind_some, if_pos rfl]
    rw [show (code != code) = false from bne_self_eq_false code]
    rw [laws_FnExactReadDiary.j1, if_neg (by simp), hh k (by omega), Option.bind_some, if_neg (by omega), if_pos rfl]
end Go.Proofs.YtenfegfoaobehaaDoor.RdP
