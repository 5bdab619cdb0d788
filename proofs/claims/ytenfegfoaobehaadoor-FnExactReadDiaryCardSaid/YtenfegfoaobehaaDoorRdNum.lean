/- Plain words: a decimal number read by the library and by the reference agree. No program in this text. -/
import Derived.Lib.ParseIntBTie
import Derived.Lib.ParseIntBCases
import Derived.Lib.AtoiTie
import Derived.Lib.ItoaNum
namespace Go.Proofs.YtenfegfoaobehaaDoor.Num
open Go.Lib

/-- The number that a word spells without needless digits, of at most nine digits. -/
def numS (l : List UInt8) : Option Nat := if l = [] ∨ 9 < l.length ∨ (l.head? = some 48 ∧ 1 < l.length) then none else decFrom 0 l
def numI (lo hi : Int) (l : List UInt8) : Option Int := match parseIntB 64 l with
  | .ok v => if lo ≤ v ∧ v ≤ hi ∧ itoa v = l then some v else none
  | _ => none

theorem decDigits_step (m d : Nat) (hm : 0 < m) (hd : d < 10) : decDigits (m * 10 + d) = decDigits m ++ [UInt8.ofNat (48 + d)] := by
  conv => lhs; rw [decDigits]
  rw [dif_neg (by omega), show (m * 10 + d) / 10 = m by omega, show (m * 10 + d) % 10 = d by omega]
theorem byte_of {b : UInt8} {d : Nat} (h : digitVal b = some d) : UInt8.ofNat (48 + d) = b ∧ d < 10 := by
  have := digitVal_eq h
  refine ⟨?_, by omega⟩
  rw [show 48 + d = b.toNat by omega]
  simp
theorem digit_of (d : Nat) (hd : d < 10) : digitVal (UInt8.ofNat (48 + d)) = some d := by
  have : ∀ i : Fin 10, digitVal (UInt8.ofNat (48 + i.val)) = some i.val := by decide
  exact this ⟨d, hd⟩
theorem from_pos : ∀ (l : List UInt8) (acc n : Nat), 0 < acc → decFrom acc l = some n → decDigits n = decDigits acc ++ l
  | [], acc, n, _, h => by
    simp only [decFrom, Option.some.injEq] at h
    subst h; simp
  | b :: r, acc, n, hp, h => by
    simp only [decFrom] at h
    cases hb : digitVal b with
    | none => rw [hb] at h; cases h
    | some d =>
      rw [hb] at h
      obtain ⟨e1, e2⟩ := byte_of hb
      rw [from_pos r (acc * 10 + d) n (by omega) h, decDigits_step acc d hp e2, e1]
      simp
theorem numS_spells {l : List UInt8} {n : Nat} (h : numS l = some n) : l = decDigits n ∧ n < 1000000000 := by
  unfold numS at h
  split at h
  · cases h
  · rename_i hc
    have hlt := decFrom_lt l 0 n h
    have hlen : l.length ≤ 9 := by
      by_cases hh : 9 < l.length
      · exact absurd (.inr (.inl hh)) hc
      · omega
    refine ⟨?_, by
      have : (10 : Nat) ^ l.length ≤ 10 ^ 9 := Nat.pow_le_pow_right (by omega) hlen
      omega⟩
    cases l with
    | nil => exact absurd (.inl rfl) hc
    | cons b r =>
      simp only [decFrom] at h
      cases hb : digitVal b with
      | none => rw [hb] at h; cases h
      | some d =>
        rw [hb] at h
        obtain ⟨e1, e2⟩ := byte_of hb
        simp only [Nat.zero_mul, Nat.zero_add] at h
        cases r with
        | nil =>
          simp only [decFrom, Option.some.injEq] at h
          subst h
          rw [decDigits_one e2, e1]
        | cons b2 r2 =>
          have hd : 0 < d := by
            by_cases hz : d = 0
            · subst hz
              exfalso
              apply hc
              refine .inr (.inr ⟨?_, by simp⟩)
              rw [← e1]; rfl
            · omega
          rw [from_pos (b2 :: r2) d n hd h, decDigits_one e2, e1]
          rfl
theorem from_snoc (b : UInt8) : ∀ (l : List UInt8) (acc : Nat), decFrom acc (l ++ [b]) = (decFrom acc l).bind fun m => (digitVal b).map fun d => m * 10 + d
  | [], acc => by
    simp only [List.nil_append, decFrom]
    cases digitVal b <;> rfl
  | c :: r, acc => by
    simp only [List.cons_append, decFrom]
    cases digitVal c with
    | none => rfl
    | some d => exact from_snoc b r _
theorem from_digits (n : Nat) : decFrom 0 (decDigits n) = some n := by
  induction n using Nat.strongRecOn with
  | ind n ih =>
    by_cases h : n < 10
    · rw [decDigits_one h]
      simp only [decFrom]
      rw [digit_of n h]
      simp
    · rw [decDigits, dif_neg h, from_snoc, ih (n / 10) (by omega), Option.bind_some, digit_of _ (by omega), Option.map_some]
      congr 1
      omega
theorem digits_head (n : Nat) : ∃ b r, decDigits n = b :: r ∧ 48 ≤ b.toNat ∧ b.toNat ≤ 57 ∧ (0 < n → b ≠ 48) := by
  induction n using Nat.strongRecOn with
  | ind n ih =>
    by_cases h : n < 10
    · refine ⟨_, [], decDigits_one h, ?_⟩
      have : ∀ i : Fin 10, 48 ≤ (UInt8.ofNat (48 + i.val)).toNat ∧ (UInt8.ofNat (48 + i.val)).toNat ≤ 57 ∧ (0 < i.val → UInt8.ofNat (48 + i.val) ≠ 48) := by decide
      exact this ⟨n, h⟩
    · obtain ⟨b, r, e, h1, h2, h3⟩ := ih (n / 10) (by omega)
      refine ⟨b, r ++ [UInt8.ofNat (48 + n % 10)], ?_, h1, h2, fun _ => h3 (by omega)⟩
      rw [decDigits, dif_neg h, e]
      rfl
theorem digits_len (n : Nat) (h : n < 1000000000) : (decDigits n).length ≤ 9 := by
  rw [decDigits_length]
  by_cases h9 : nDigits n ≤ 9
  · exact h9
  · exfalso
    have h1 : ∀ (k u : Nat), u < 10 ^ k → 1 ≤ k → nDigits u ≤ k := by
      intro k
      induction k with
      | zero => intro u _ h; omega
      | succ k ih =>
        intro u hu _
        by_cases hs : u < 10
        · rw [nDigits_small hs]; omega
        · rw [nDigits_big hs]
          have : u / 10 < 10 ^ k := by rw [Nat.pow_succ] at hu; omega
          by_cases hk : k = 0
          · subst hk; simp at hu; omega
          · have := ih (u / 10) this (by omega); omega
    exact h9 (h1 9 n (by omega) (by omega))
theorem numS_digits (n : Nat) (h : n < 1000000000) : numS (decDigits n) = some n := by
  obtain ⟨b, r, e, h1, h2, h3⟩ := digits_head n
  have hl := digits_len n h
  unfold numS
  rw [if_neg, from_digits]
  rintro (hc | hc | ⟨hc, hlen⟩)
  · rw [e] at hc; cases hc
  · omega
  · rw [e] at hc
    simp only [List.head?_cons, Option.some.injEq] at hc
    by_cases hn : 0 < n
    · exact h3 hn hc
    · have : n = 0 := by omega
      subst this
      rw [decDigits_one (by omega)] at hlen
      simp at hlen
theorem parse_digits (n : Nat) (h : n < 1000000000) : parseIntB 64 (decDigits n) = .ok (n : Int) := by
  obtain ⟨b, r, e, h1, h2, h3⟩ := digits_head n
  have hl := digits_len n h
  have hf := from_digits n
  rw [parseIntB_64]
  rw [e] at hl hf ⊢
  rw [atoiAll_plain b r (by omega) (by omega)]
  unfold parseMag
  rw [if_neg (by simp), parseUint10_short (b :: r) 0 0 (by omega) (by omega), hf]
  simp only [NumEnd.ofOption, signless]
  rw [if_neg (by omega)]
theorem itoa_nat (n : Nat) : itoa (n : Int) = decDigits n := by
  unfold itoa
  rw [if_neg (by omega)]
  rfl
theorem num_agree (lo hi : Int) (h0 : 0 ≤ lo) (h1 : hi < 1000000000) (l : List UInt8) : numI lo hi l = (numS l).bind fun n => if lo ≤ (n : Int) ∧ (n : Int) ≤ hi then some (n : Int) else none := by
  cases hs : numS l with
  | some n =>
    obtain ⟨e, hn⟩ := numS_spells hs
    subst e
    unfold numI
    rw [parse_digits n hn]
    simp [itoa_nat]
  | none =>
    rw [Option.bind_none]
    unfold numI
    cases hp : parseIntB 64 l
    case range => rfl
    case ok v =>
      simp only
      rw [if_neg]
      rintro ⟨a1, a2, a3⟩
      obtain ⟨n, rfl⟩ := Int.eq_ofNat_of_zero_le (show 0 ≤ v by omega)
      rw [itoa_nat] at a3
      subst a3
      rw [numS_digits n (by omega)] at hs
      cases hs
    rfl
end Go.Proofs.YtenfegfoaobehaaDoor.Num
