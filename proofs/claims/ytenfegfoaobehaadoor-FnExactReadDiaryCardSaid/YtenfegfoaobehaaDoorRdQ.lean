/- Plain lemmas: a line of a diary, read by the program and by the reference. -/
import Derived.Test.YtenfegfoaobehaaDoorRdP
namespace Go.Proofs.YtenfegfoaobehaaDoor.RdP
open Go.RowKit Go.Proofs.YtenfegfoaobehaaDoorW.PrintWords Go.Proofs.YtenfegfoaobehaaDoorW.PrintLast Go.Proofs.YtenfegfoaobehaaDoorW.PrintMore Go.Proofs.YtenfegfoaobehaaDoor Go.Proofs.YtenfegfoaobehaaDoor.Rd Go.Proofs.YtenfegfoaobehaaDoor.Num Go.Proofs.YtenfegfoaobehaaDoor.Spl
set_option linter.unusedSimpArgs false
set_option linter.unusedVariables false

def numR : Option Nat → Int × Bool
  | some n => ((n : Int), true)
  | none => (0, false)
theorem num_loop (s : ByteArray) (hn : s.size ≤ 9) (d : Nat) : ∀ (k i acc : Nat), i ≤ s.size → s.size - i = d → d < k → acc < 10 ^ i →
    spec_l01Number.l0 k s (acc : Int) (i : Int) = some (numR (Lib.decFrom acc (s.data.toList.drop i))) := by
  have hsz := size_len s
  induction d with
  | zero =>
    intro k i acc h1 h2 h3 h4
    obtain ⟨k, rfl⟩ : ∃ m, k = m + 1 := ⟨k - 1, by omega⟩
    obtain rfl : i = s.size := by omega
    rw [spec_l01Number.l0, if_neg (by omega), List.drop_of_length_le (by omega)]
    rfl
  | succ d ih =>
    intro k i acc h1 h2 h3 h4
    obtain ⟨k, rfl⟩ : ∃ m, k = m + 1 := ⟨k - 1, by omega⟩
    have hlt : i < s.data.toList.length := by omega
    rw [spec_l01Number.l0, if_pos (by omega), if_pos (by omega), bt_at s i hlt, List.drop_eq_getElem_cons hlt]
    have hb : (s.data.toList[i]).toNat < 256 := (s.data.toList[i]).toNat_lt
    generalize s.data.toList[i] = b at hb
    have hpow : (10 : Nat) ^ i ≤ 10 ^ 8 := Nat.pow_le_pow_right (by omega) (by omega)
    by_cases hlo : (b.toNat : Int) < 48
    · rw [if_pos hlo]
      have : Lib.digitVal b = none := by unfold Lib.digitVal; rw [if_neg (by omega)]
      simp [Lib.decFrom, this, numR]
    · rw [if_neg hlo]
      by_cases hhi : (b.toNat : Int) > 57
      · rw [if_pos hhi]
        have : Lib.digitVal b = none := by unfold Lib.digitVal; rw [if_neg (by omega)]
        simp [Lib.decFrom, this, numR]
      · rw [if_neg hhi, wrap_next i s.size (by omega) (by omega)]
        have hd : Lib.digitVal b = some (b.toNat - 48) := by unfold Lib.digitVal; rw [if_pos (by omega)]
        have e : wrap64 (wrap64 (10 * (acc : Int)) + ((b.toNat : Int) - 48) % 256) = ((acc * 10 + (b.toNat - 48) : Nat) : Int) := by
          have e1 : wrap64 (10 * (acc : Int)) = 10 * (acc : Int) := by unfold wrap64; omega
          rw [e1]
          unfold wrap64
          omega
        rw [e, ih k (i + 1) _ (by omega) (by omega) (by omega) (by rw [Nat.pow_succ]; omega)]
        simp only [Lib.decFrom, hd]
theorem toList_nil (s : ByteArray) : s.toList = [] ↔ s.data.toList = [] := by rw [ByteArray.toList_eq]
theorem num_f (s : ByteArray) (k : Nat) (hk : 20 ≤ k) : spec_l01Number.f k s = some (numR (numS s.data.toList)) := by
  have hsz := size_len s
  obtain ⟨k, rfl⟩ : ∃ m, k = m + 1 := ⟨k - 1, by omega⟩
  have bad : spec_l01Number.j0 (k + 1) s true = some (0, false) := by rw [spec_l01Number.j0, if_pos rfl]
  unfold spec_l01Number.f numS
  by_cases h0 : s.data.toList = []
  · rw [if_pos ((toList_nil s).2 h0), bad, if_pos (.inl h0)]
    rfl
  · rw [if_neg (fun h => h0 ((toList_nil s).1 h))]
    by_cases h9 : 9 < s.data.toList.length
    · rw [if_pos (by omega), bad, if_pos (.inr (.inl h9))]
      rfl
    · have hpos : 0 < s.data.toList.length := List.length_pos_iff.2 h0
      rw [if_neg (by omega), if_pos (by omega)]
      have hb0 : bt s 0 = ((s.data.toList[0]).toNat : Int) := bt_at s 0 hpos
      have hhead : s.data.toList.head? = some s.data.toList[0] := by
        rw [List.head?_eq_getElem?, List.getElem?_eq_getElem hpos]
      have good : spec_l01Number.j0 (k + 1) s false = some (numR (Lib.decFrom 0 s.data.toList)) := by
        rw [spec_l01Number.j0, if_neg (by simp)]
        have := num_loop s (by omega) s.size k 0 0 (by omega) (by omega) (by omega) (by simp)
        simpa using this
      by_cases h48 : s.data.toList[0] = 48
      · rw [hb0, if_pos (by rw [h48]; rfl)]
        by_cases h1 : 1 < s.data.toList.length
        · rw [decide_eq_true (by omega), bad, if_pos (.inr (.inr ⟨by rw [hhead, h48], h1⟩))]
          rfl
        · rw [decide_eq_false (by omega), good, if_neg]
          rintro (h | h | ⟨_, h⟩)
          · exact h0 h
          · exact h9 h
          · exact h1 h
      · rw [hb0, if_neg (by
          intro h
          apply h48
          exact UInt8.toNat_inj.1 (by have : (48 : UInt8).toNat = 48 := rfl; omega)), good, if_neg]
        rintro (h | h | ⟨h, _⟩)
        · exact h0 h
        · exact h9 h
        · rw [hhead] at h
          exact h48 (Option.some.inj h)
theorem parse_is (a : ByteArray) (lo hi : Int) (hs : a.size ≤ 1048576) : ∃ v b, impl_parse.f a lo hi = some (v, b) ∧ (b = true → numI lo hi a.data.toList = some v) ∧ (b = false → numI lo hi a.data.toList = none) := by
  unfold impl_parse.f numI
  rw [if_pos (by omega)]
  cases hp : Lib.parseIntB 64 a.data.toList
  case ok v =>
    refine ⟨v, _, rfl, ?_, ?_⟩
    · intro h
      simp only [Bool.and_eq_true, decide_eq_true_eq] at h
      simp only
      rw [if_pos ⟨h.1.1, h.1.2, h.2⟩]
    · intro h
      simp only
      rw [if_neg]
      rintro ⟨h1, h2, h3⟩
      simp [h1, h2, h3] at h
  all_goals exact ⟨_, _, rfl, (fun h => Bool.noConfusion h), (fun _ => rfl)⟩

/-! ## The word -/
abbrev w0 : ByteArray := ⟨#[115, 111, 119]⟩
abbrev w1 : ByteArray := ⟨#[101, 97, 116]⟩
abbrev w2 : ByteArray := ⟨#[116, 97, 107, 101]⟩
abbrev w3 : ByteArray := ⟨#[102, 97, 108, 108]⟩
def widx (w : ByteArray) : Nat := if w.toList = w0.toList then 0 else if w.toList = w1.toList then 1 else if w.toList = w2.toList then 2 else if w.toList = w3.toList then 3 else 4
theorem widx_le (w : ByteArray) : widx w ≤ 4 := by unfold widx; split; omega; split; omega; split; omega; split <;> omega
theorem index_is (w : ByteArray) (k : Nat) (hk : 6 ≤ k) : slices_Index_string_string.f k [w0, w1, w2, w3] w = some (if widx w < 4 then (widx w : Int) else -1) := by
  obtain ⟨k, rfl⟩ : ∃ m, k = m + 5 := ⟨k - 5, by omega⟩
  unfold slices_Index_string_string.f widx
  have e1 : wrap64 (0 + 1) = 1 := by unfold wrap64; omega
  have e2 : wrap64 (1 + 1) = 2 := by unfold wrap64; omega
  have e3 : wrap64 (2 + 1) = 3 := by unfold wrap64; omega
  have e4 : wrap64 (3 + 1) = 4 := by unfold wrap64; omega
  have r0 : rdOf ByteArray.empty [w0, w1, w2, w3] 0 = w0 := rfl
  have r1 : rdOf ByteArray.empty [w0, w1, w2, w3] 1 = w1 := rfl
  have r2 : rdOf ByteArray.empty [w0, w1, w2, w3] 2 = w2 := rfl
  have r3 : rdOf ByteArray.empty [w0, w1, w2, w3] 3 = w3 := rfl
  by_cases h0 : w.toList = w0.toList
  · simp [slices_Index_string_string.l0, r0, h0]
  · by_cases h1 : w.toList = w1.toList
    · rw [if_neg h0, if_pos h1]
      rw [slices_Index_string_string.l0, if_pos (by simp), if_pos (by omega), if_pos (by simp), r0, if_neg h0, e1, slices_Index_string_string.l0, if_pos (by simp), if_pos (by omega), if_pos (by simp), r1, if_pos h1]
      rfl
    · by_cases h2 : w.toList = w2.toList
      · rw [if_neg h0, if_neg h1, if_pos h2]
        rw [slices_Index_string_string.l0, if_pos (by simp), if_pos (by omega), if_pos (by simp), r0, if_neg h0, e1, slices_Index_string_string.l0, if_pos (by simp), if_pos (by omega), if_pos (by simp), r1, if_neg h1, e2, slices_Index_string_string.l0, if_pos (by simp), if_pos (by omega), if_pos (by simp), r2, if_pos h2]
        rfl
      · by_cases h3 : w.toList = w3.toList
        · rw [if_neg h0, if_neg h1, if_neg h2, if_pos h3]
          rw [slices_Index_string_string.l0, if_pos (by simp), if_pos (by omega), if_pos (by simp), r0, if_neg h0, e1, slices_Index_string_string.l0, if_pos (by simp), if_pos (by omega), if_pos (by simp), r1, if_neg h1, e2, slices_Index_string_string.l0, if_pos (by simp), if_pos (by omega), if_pos (by simp), r2, if_neg h2, e3, slices_Index_string_string.l0, if_pos (by simp), if_pos (by omega), if_pos (by simp), r3, if_pos h3]
          rfl
        · rw [if_neg h0, if_neg h1, if_neg h2, if_neg h3]
          rw [slices_Index_string_string.l0, if_pos (by simp), if_pos (by omega), if_pos (by simp), r0, if_neg h0, e1, slices_Index_string_string.l0, if_pos (by simp), if_pos (by omega), if_pos (by simp), r1, if_neg h1, e2, slices_Index_string_string.l0, if_pos (by simp), if_pos (by omega), if_pos (by simp), r2, if_neg h2, e3, slices_Index_string_string.l0, if_pos (by simp), if_pos (by omega), if_pos (by simp), r3, if_neg h3, e4, slices_Index_string_string.l0, if_neg (by simp)]
          rfl
end Go.Proofs.YtenfegfoaobehaaDoor.RdP
