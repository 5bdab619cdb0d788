/- Plain words: a text split at a byte: the library and the plain split agree. No program in this text. -/
import Derived.Lib.SplitLaws
import Derived.Lib.CutLaws
namespace Go.Proofs.YtenfegfoaobehaaDoor.Spl
open Go.Lib

/-- A text cut at each byte c. -/
def spl (c : UInt8) : List UInt8 → List (List UInt8)
  | [] => [[]]
  | b :: r => if b = c then [] :: spl c r else match spl c r with
    | [] => [[b]]
    | p :: ps => (b :: p) :: ps
theorem spl_ne (c : UInt8) : ∀ l, spl c l ≠ []
  | [] => by simp [spl]
  | b :: r => by
    unfold spl
    split
    · simp
    · split <;> simp
theorem index_ne (b c : UInt8) (l : List UInt8) (h : b ≠ c) : index (b :: l) [c] = if index l [c] = -1 then -1 else index l [c] + 1 := by
  have hp : ([c] : List UInt8).isPrefixOf (b :: l) = false := by simp [List.isPrefixOf, Ne.symm h]
  rw [index, hp]; simp
theorem index_eq (c : UInt8) (l : List UInt8) : index (c :: l) [c] = 0 := by
  rw [index]; simp [List.isPrefixOf]
theorem splitK_ne (b c : UInt8) (l : List UInt8) (h : b ≠ c) (k : Nat) : splitK [c] 0 k (b :: l) = match splitK [c] 0 k l with
    | [] => [[b]]
    | p :: ps => (b :: p) :: ps := by
  cases k with
  | zero => rfl
  | succ k =>
    rw [splitK, splitK, index_ne b c l h]
    by_cases hm : index l [c] = -1
    · simp [hm]
    · have hge := index_ge l [c]
      obtain ⟨j, hj⟩ : ∃ j : Nat, index l [c] = j := ⟨(index l [c]).toNat, by omega⟩
      rw [hj]
      have e1 : ((if (j : Int) = -1 then (-1 : Int) else (j : Int) + 1) == -1) = false := by
        rw [if_neg (show ¬ (j : Int) = -1 by omega)]
        exact beq_eq_false_iff_ne.2 (show ¬ (j : Int) + 1 = -1 by omega)
      have e2 : ((j : Int) == -1) = false := beq_eq_false_iff_ne.2 (show ¬ (j : Int) = -1 by omega)
      rw [e1, e2, if_neg (show ¬ (j : Int) = -1 by omega)]
      have e3 : ((j : Int) + 1).toNat = j + 1 := by omega
      simp [e3]
theorem splitK_eq (c : UInt8) (l : List UInt8) (k : Nat) : splitK [c] 0 (k + 1) (c :: l) = [] :: splitK [c] 0 k l := by
  rw [splitK, index_eq]
  simp
theorem splitK_spl (c : UInt8) : ∀ l : List UInt8, splitK [c] 0 (l.count c) l = spl c l
  | [] => by simp [splitK, spl]
  | b :: r => by
    by_cases h : b = c
    · subst h
      rw [List.count_cons_self, splitK_eq, splitK_spl b r, spl, if_pos rfl]
    · rw [List.count_cons_of_ne (by simpa using h), splitK_ne b c r h, splitK_spl c r, spl, if_neg h]
theorem cut_eq (c : UInt8) (l : List UInt8) : cut (c :: l) [c] = ([], l, true) := by
  unfold cut
  rw [index_eq, if_pos (by omega)]
  simp
theorem cut_nil (c : UInt8) : cut [] [c] = ([], [], false) := by simp [cut, index]
theorem cut_ne (b c : UInt8) (l : List UInt8) (h : b ≠ c) : cut (b :: l) [c] = (b :: (cut l [c]).1, (cut l [c]).2.1, (cut l [c]).2.2) := by
  unfold cut
  rw [index_ne b c l h]
  by_cases hm : index l [c] = -1
  · simp [hm]
  · have hge := index_ge l [c]
    obtain ⟨j, hj⟩ : ∃ j : Nat, index l [c] = j := ⟨(index l [c]).toNat, by omega⟩
    have e3 : ((j : Int) + 1).toNat = j + 1 := by omega
    rw [hj, if_neg (by omega : ¬ (j : Int) = -1), if_pos (by omega), if_pos (by omega), e3]
    simp
theorem cut_hit (c : UInt8) : ∀ l : List UInt8, (cut l [c]).2.2 = true → spl c l = (cut l [c]).1 :: spl c (cut l [c]).2.1 ∧ l = (cut l [c]).1 ++ c :: (cut l [c]).2.1
  | [], h => by rw [cut_nil] at h; cases h
  | b :: r, h => by
    by_cases hb : b = c
    · subst hb
      rw [cut_eq]
      exact ⟨by rw [spl, if_pos rfl], rfl⟩
    · rw [cut_ne b c r hb] at h ⊢
      obtain ⟨h1, h2⟩ := cut_hit c r h
      refine ⟨?_, ?_⟩
      · rw [spl, if_neg hb, h1]
      · simp only [List.cons_append]
        rw [← h2]
theorem cut_miss (c : UInt8) : ∀ l : List UInt8, (cut l [c]).2.2 = false → spl c l = [l]
  | [], _ => rfl
  | b :: r, h => by
    by_cases hb : b = c
    · subst hb
      rw [cut_eq] at h
      cases h
    · rw [cut_ne b c r hb] at h
      rw [spl, if_neg hb, cut_miss c r h]
theorem splitB_spl (c : UInt8) (s : ByteArray) : (splitB ⟨#[c]⟩ 0 (countB s ⟨#[c]⟩) s).map (·.data.toList) = spl c s.data.toList := by
  rw [splitB_data]
  rw [show countB s ⟨#[c]⟩ = s.data.toList.count c from count_one c _]
  exact splitK_spl c _
end Go.Proofs.YtenfegfoaobehaaDoor.Spl
