/- Plain lemmas: the printed functions of ReadDiary (the program's and the reference's) agree, and a list that is marked is held. -/
import Derived.Test.YtenfegfoaobehaaDoorRd
import Derived.Test.YtenfegfoaobehaaDoorRdNum
import Derived.Test.YtenfegfoaobehaaDoorRdSpl
namespace Go.Proofs.YtenfegfoaobehaaDoor.RdP
open Go.RowKit Go.Proofs.YtenfegfoaobehaaDoorW.PrintWords Go.Proofs.YtenfegfoaobehaaDoorW.PrintLast Go.Proofs.YtenfegfoaobehaaDoorW.PrintMore Go.Proofs.YtenfegfoaobehaaDoor Go.Proofs.YtenfegfoaobehaaDoor.Rd Go.Proofs.YtenfegfoaobehaaDoor.Num Go.Proofs.YtenfegfoaobehaaDoor.Spl
set_option linter.unusedSimpArgs false
set_option linter.unusedVariables false

abbrev E := S37
def mkB (l : List UInt8) : ByteArray := ⟨l.toArray⟩
def pieces (c : UInt8) (l : List UInt8) : List ByteArray := (spl c l).map mkB
theorem mkB_data (s : ByteArray) : mkB s.data.toList = s := by
  apply ByteArray.ext
  simp [mkB]
theorem data_mkB (l : List UInt8) : (mkB l).data.toList = l := by simp [mkB]
theorem getD_lt {α : Type} (l : List α) (d : α) {k : Nat} (h : k < l.length) : l.getD k d = l[k] := by
  simp [List.getD, List.getElem?_eq_getElem h]
theorem wrap_next (i n : Nat) (h : i < n) (hn : n ≤ 9223372036854775807) : wrap64 ((i : Int) + 1) = ((i + 1 : Nat) : Int) := by unfold wrap64; omega
theorem bt_at (s : ByteArray) (i : Nat) (h : i < s.data.toList.length) : bt s (i : Int) = ((s.data.toList[i]).toNat : Int) := by
  have h' : i < s.size := by rw [Lib.size_eq s]; exact h
  unfold bt
  rw [dif_pos (by simpa using h')]
  simp [ByteArray.getElem_eq_getElem_data]

/-! ## Split -/
theorem spl_app (c : UInt8) (R : List UInt8) : ∀ P : List UInt8, c ∉ P → spl c (P ++ R) = match spl c R with
    | [] => [P]
    | p :: ps => (P ++ p) :: ps
  | [], _ => by
    cases h : spl c R with
    | nil => exact absurd h (spl_ne c R)
    | cons p ps => simp [h]
  | b :: P, h => by
    simp only [List.mem_cons, not_or] at h
    have ih := spl_app c R P h.2
    rw [List.cons_append, spl, if_neg (fun e => h.1 e.symm), ih]
    cases spl c R <;> rfl
theorem spl_free (c : UInt8) (P : List UInt8) (h : c ∉ P) : spl c P = [P] := by
  have := spl_app c [] P h
  simpa [spl] using this
theorem spl_at (c : UInt8) (P R : List UInt8) (h : c ∉ P) : spl c (P ++ c :: R) = P :: spl c R := by
  rw [spl_app c _ P h, spl, if_pos rfl]
  simp
theorem size_len (s : ByteArray) : s.size = s.data.toList.length := Lib.size_eq s
theorem ext_mk (s : ByteArray) (a b : Nat) : s.extract a b = mkB ((s.data.toList.drop a).take (b - a)) := by
  rw [Lib.extract_eq]
  rfl
theorem split_loop (c : UInt8) (s : ByteArray) (hn : s.size ≤ 1048576) (d : Nat) : ∀ (k b i : Nat) (out : List ByteArray), b ≤ i → i ≤ s.size → s.size - i = d → d < k → out.length ≤ i → c ∉ (s.data.toList.drop b).take (i - b) →
    spec_l01Split.l0 k s (c.toNat : Int) out b i = some (out ++ (spl c (s.data.toList.drop b)).map mkB) := by
  have hsz := size_len s
  induction d with
  | zero =>
    intro k b i out h1 h2 h3 h4 h5 h6
    obtain ⟨k, rfl⟩ : ∃ m, k = m + 1 := ⟨k - 1, by omega⟩
    obtain rfl : i = s.size := by omega
    rw [spec_l01Split.l0, if_neg (by omega), if_pos (by omega), if_pos (by omega), if_pos (by omega)]
    rw [List.take_of_length_le (by rw [List.length_drop]; omega)] at h6
    rw [spl_free c _ h6, Int.toNat_natCast, ext_mk, List.take_of_length_le (by rw [List.length_drop]; omega)]
    rfl
  | succ d ih =>
    intro k b i out h1 h2 h3 h4 h5 h6
    obtain ⟨k, rfl⟩ : ∃ m, k = m + 1 := ⟨k - 1, by omega⟩
    have hlt : i < s.data.toList.length := by omega
    rw [spec_l01Split.l0, if_pos (by omega), if_pos (by omega), bt_at s i hlt]
    have hsplit : s.data.toList.drop b = (s.data.toList.drop b).take (i - b) ++ s.data.toList[i] :: s.data.toList.drop (i + 1) := by
      conv => lhs; rw [← List.take_append_drop (i - b) (s.data.toList.drop b)]
      rw [List.drop_drop, show b + (i - b) = i by omega, List.drop_eq_getElem_cons hlt]
    by_cases hc : s.data.toList[i] = c
    · rw [if_pos (by rw [hc]), if_pos (by omega), if_pos (by omega), if_pos (by omega), if_pos (by omega), wrap_next i s.size (by omega) (by omega)]
      rw [ih k (i + 1) (i + 1) _ (by omega) (by omega) (by omega) (by omega) (by simp; omega) (by simp)]
      rw [hsplit, hc, spl_at c _ _ h6, Int.toNat_natCast, Int.toNat_natCast, ext_mk]
      simp
    · rw [if_neg (by
        intro h
        apply hc
        have : (s.data.toList[i]).toNat = c.toNat := by omega
        exact UInt8.toNat_inj.1 this), wrap_next i s.size (by omega) (by omega)]
      rw [ih k b (i + 1) out (by omega) (by omega) (by omega) (by omega) (by omega) ?_]
      rw [show i + 1 - b = (i - b) + 1 by omega, List.take_add_one]
      simp only [List.mem_append, not_or]
      refine ⟨h6, ?_⟩
      rw [List.getElem?_drop, show b + (i - b) = i by omega, List.getElem?_eq_getElem hlt]
      simp
      exact fun e => hc e.symm
theorem split_f (c : UInt8) (s : ByteArray) (hn : s.size ≤ 1048576) (k : Nat) (hk : s.size < k) : spec_l01Split.f k s (c.toNat : Int) = some (pieces c s.data.toList) := by
  have := split_loop c s hn s.size k 0 0 [] (by omega) (by omega) (by omega) (by omega) (by simp) (by simp)
  simpa [spec_l01Split.f, pieces] using this
theorem splitB_pieces (c : UInt8) (s : ByteArray) : Lib.splitB ⟨#[c]⟩ 0 (Lib.countB s ⟨#[c]⟩) s = pieces c s.data.toList := by
  rw [pieces, ← splitB_spl, List.map_map]
  conv => lhs; rw [← List.map_id (Lib.splitB _ _ _ _)]
  apply List.map_congr_left
  intro x _
  exact (mkB_data x).symm
end Go.Proofs.YtenfegfoaobehaaDoor.RdP
