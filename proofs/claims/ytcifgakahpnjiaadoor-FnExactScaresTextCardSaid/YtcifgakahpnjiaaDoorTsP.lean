/- Plain lemmas: what the printed functions of the scarecrows' and nets' texts answer. -/
import Derived.Test.YtcifgakahpnjiaaDoorTs
namespace Go.Proofs.YtcifgakahpnjiaaDoor.TsP
open Go.RowKit Go.Proofs.YtcifgakahpnjiaaDoorW.PrintWords Go.Proofs.YtcifgakahpnjiaaDoorW.PrintLast Go.Proofs.YtcifgakahpnjiaaDoorW.PrintMore Go.Proofs.YtcifgakahpnjiaaDoor Go.Proofs.YtcifgakahpnjiaaDoor.Ts
set_option linter.unusedSimpArgs false
set_option linter.unusedVariables false

theorem getD_lt {α : Type} (l : List α) (d : α) {k : Nat} (h : k < l.length) : l.getD k d = l[k] := by
  simp [List.getD, List.getElem?_eq_getElem h]
theorem wrap_next (i n : Nat) (h : i < n) (hn : n ≤ 9223372036854775807) : wrap64 ((i : Int) + 1) = ((i + 1 : Nat) : Int) := by unfold wrap64; omega
theorem dec_one (n : Int) (h0 : 0 ≤ n) (h1 : n < 9223372036854775807) : strOfNums [(wrap64 (48 + Int.tmod n 10)) % 256] = ⟨#[UInt8.ofNat (48 + n.toNat % 10)]⟩ := by
  obtain ⟨u, rfl⟩ := Int.eq_ofNat_of_zero_le h0
  have e1 : Int.tmod (u : Int) 10 = ((u % 10 : Nat) : Int) := by
    rw [Int.tmod_eq_emod_of_nonneg (by omega)]; omega
  rw [e1]
  have e2 : (wrap64 (48 + ((u % 10 : Nat) : Int))) % 256 = ((48 + u % 10 : Nat) : Int) := by unfold wrap64; omega
  rw [e2]
  show (⟨([((48 + u % 10 : Nat) : Int)].map fun n => UInt8.ofNat n.toNat).toArray⟩ : ByteArray) = _
  simp only [List.map_cons, List.map_nil, Int.toNat_natCast]

theorem decimal_is : ∀ (k : Nat) (n : Int), 0 ≤ n → n < 1000000 → n < 10 ^ (k + 1) → spec_Decimal.f (k + 1) n = some (decB n) := by
  intro k
  induction k with
  | zero =>
    intro n h0 _ h1
    simp only [spec_Decimal.f]
    rw [if_pos (by omega), dec_one n h0 (by omega)]
    unfold decB Lib.itoa
    rw [if_neg (by omega), Lib.decDigits, dif_pos (by omega)]
    congr 5
    omega
  | succ k ih =>
    intro n h0 hm h1
    rw [spec_Decimal.f]
    by_cases hn : n < 10
    · rw [if_pos hn, dec_one n h0 (by omega)]
      unfold decB Lib.itoa
      rw [if_neg (by omega), Lib.decDigits, dif_pos (by omega)]
      congr 5
      omega
    · rw [if_neg hn]
      have e : wrap64 (Int.tdiv n 10) = n / 10 := by
        rw [Int.tdiv_eq_ediv_of_nonneg h0]
        unfold wrap64
        omega
      have h10 : n / 10 < 10 ^ (k + 1) := by
        have : (10 : Int) ^ (k + 1 + 1) = 10 ^ (k + 1) * 10 := by rw [Int.pow_succ]
        omega
      rw [e, ih (n / 10) (by omega) (by omega) h10]
      simp only [Option.bind_some]
      rw [dec_one n h0 (by omega)]
      have hs := decB_size (n / 10) (by omega) (by omega)
      rw [if_pos (by rw [Pz.sz1]; omega)]
      congr 1
      unfold decB Lib.itoa
      have e3 : Lib.decDigits n.toNat = Lib.decDigits (n.toNat / 10) ++ [UInt8.ofNat (48 + n.toNat % 10)] := by
        rw [Lib.decDigits, dif_neg (by omega)]
      have e4 : (n / 10).toNat = n.toNat / 10 := by omega
      rw [if_neg (by omega), if_neg (by omega), e3, e4]
      apply ByteArray.ext
      rw [ByteArray.data_append]
      simp only [List.append_toArray]
theorem decimal_ok (k : Nat) (hk : 6 ≤ k) (n : Int) (h0 : 0 ≤ n) (h1 : n < 1000000) : spec_Decimal.f k n = some (decB n) := by
  obtain ⟨m, rfl⟩ : ∃ m, k = m + 1 := ⟨k - 1, by omega⟩
  refine decimal_is m n h0 h1 ?_
  have : (10 : Int) ^ 6 ≤ 10 ^ (m + 1) := by
    obtain ⟨j, rfl⟩ : ∃ j, m = 5 + j := ⟨m - 5, by omega⟩
    rw [show 5 + j + 1 = 6 + j by omega, Int.pow_add]
    have : (1 : Int) ≤ 10 ^ j := by exact_mod_cast Nat.one_le_pow j 10 (by omega)
    omega
  omega


abbrev sp : ByteArray := ⟨#[32]⟩
theorem joinB_nil (s : ByteArray) : joinB [] s = ⟨#[]⟩ := by simp [joinB, Lib.join]
theorem joinB_one (x s : ByteArray) : joinB [x] s = x := by
  obtain ⟨d⟩ := x
  simp [joinB, Lib.join]
theorem intercalate_snoc (s : List UInt8) (l : List (List UInt8)) (x : List UInt8) (h : l ≠ []) : s.intercalate (l ++ [x]) = s.intercalate l ++ s ++ x := by
  induction l with
  | nil => exact absurd rfl h
  | cons a l ih =>
    cases l with
    | nil => simp [List.intercalate, List.intersperse]
    | cons b l =>
      have := ih (by simp)
      simp only [List.intercalate, List.cons_append, List.intersperse, List.flatten_cons] at this ⊢
      rw [this]
      simp
theorem joinB_snoc (l : List ByteArray) (x s : ByteArray) (h : l ≠ []) : joinB (l ++ [x]) s = (joinB l s ++ s) ++ x := by
  apply ByteArray.ext
  simp only [joinB, Lib.join, List.map_append, List.map_cons, List.map_nil, ByteArray.data_append]
  rw [intercalate_snoc _ _ _ (by simpa using h)]
  apply Array.ext'
  simp
theorem join_size (l : List ByteArray) (c : Nat) (h : ∀ x ∈ l, x.size ≤ c) : (joinB l sp).size ≤ (c + 1) * l.length := by
  suffices ∀ r : List ByteArray, (∀ x ∈ r, x.size ≤ c) → (joinB r.reverse sp).size ≤ (c + 1) * r.length by
    have := this l.reverse (by simpa using h)
    simpa using this
  intro r
  induction r with
  | nil => intro _; simp [joinB_nil, Pz.sz0]
  | cons x r ih =>
    intro h
    have h1 := ih (fun y hy => h y (by simp [hy]))
    have h2 := h x (by simp)
    rw [List.reverse_cons, List.length_cons, Nat.mul_add]
    by_cases hr : r = []
    · subst hr
      simp only [List.reverse_nil, List.nil_append, joinB_one]
      omega
    · rw [joinB_snoc _ _ _ (by simpa using hr), ByteArray.size_append, ByteArray.size_append, Pz.sz1]
      omega
theorem map_take_succ {α : Type} (w : α → ByteArray) (l : List α) (i : Nat) (h : i < l.length) : (l.take (i + 1)).map w = (l.take i).map w ++ [w l[i]] := by
  rw [List.take_succ_eq_append_getElem h, List.map_append]; rfl

/-! ## Scarecrow -/
def scW (x : S73) : ByteArray := (((decB x.f0 ++ ⟨#[58]⟩) ++ decB x.f1) ++ ⟨#[47]⟩) ++ decB x.f2
def scOk (x : S73) : Bool := decide (0 ≤ x.f0 ∧ x.f0 ≤ 99 ∧ 1 ≤ x.f1 ∧ x.f1 ≤ 1000 ∧ 0 ≤ x.f2 ∧ x.f2 ≤ 30)
abbrev scWf (x : S73) : Prop := (-32768 ≤ x.f0 ∧ x.f0 ≤ 32767) ∧ (-32768 ≤ x.f1 ∧ x.f1 ≤ 32767) ∧ (-128 ≤ x.f2 ∧ x.f2 ≤ 127)
abbrev scWf0 (x : S75) : Prop := (-32768 ≤ x.f0 ∧ x.f0 ≤ 32767) ∧ (-32768 ≤ x.f1 ∧ x.f1 ≤ 32767) ∧ (-128 ≤ x.f2 ∧ x.f2 ≤ 127)
theorem scW_size (x : S73) (h : scOk x = true) : (scW x).size ≤ 100 := by
  simp only [scOk, decide_eq_true_eq] at h
  have h0 := decB_size x.f0 (by omega) (by omega)
  have h1 := decB_size x.f1 (by omega) (by omega)
  have h2 := decB_size x.f2 (by omega) (by omega)
  simp only [scW, ByteArray.size_append, Pz.sz1]
  omega
def scText (l : List S73) : ByteArray := if l.all scOk && decide (l.length ≤ 20) then joinB (l.map scW) sp else ⟨#[]⟩
theorem sc_long (l : List S73) (h : 20 < l.length) : scText l = ⟨#[]⟩ := by
  unfold scText
  rw [if_neg]
  simp
  omega
theorem sc_bad (l : List S73) {x} (h : x ∈ l) (hx : scOk x = false) : scText l = ⟨#[]⟩ := by
  unfold scText
  rw [if_neg]
  simp
  intro h1
  have := h1 x h
  rw [hx] at this
  cases this
theorem sc_good (l : List S73) (h : ∀ x ∈ l, scOk x = true) (h1 : l.length ≤ 20) : scText l = joinB (l.map scW) sp := by
  unfold scText
  rw [if_pos]
  simp
  exact ⟨h, h1⟩
theorem sc_rd (l : List S73) (i : Nat) (h : i < l.length) : rd_T73 l i = l[i] := by
  unfold rd_T73; rw [Int.toNat_natCast, getD_lt _ _ h]
theorem sc_rd0 (l : List S75) (i : Nat) (h : i < l.length) : rd_T75 l i = l[i] := by
  unfold rd_T75; rw [Int.toNat_natCast, getD_lt _ _ h]
def scCv (x : S75) : S73 := ⟨x.f0, x.f1, x.f2⟩
theorem sc_to (l : List S75) (hn : l.length ≤ 1048576) (d : Nat) : ∀ (k i : Nat) (r : List S73), i ≤ l.length → l.length - i = d → d < k → r.length = l.length → r.take i = (l.take i).map scCv →
    laws_toScarecrowS.l0 k l r i = some (l.map scCv) := by
  induction d with
  | zero =>
    intro k i r h1 h2 h3 hr ht
    obtain ⟨k, rfl⟩ : ∃ m, k = m + 1 := ⟨k - 1, by omega⟩
    obtain rfl : i = l.length := by omega
    simp only [laws_toScarecrowS.l0]
    rw [if_neg (by omega)]
    rw [List.take_length, ← hr, List.take_length] at ht
    rw [ht]
  | succ d ih =>
    intro k i r h1 h2 h3 hr ht
    obtain ⟨k, rfl⟩ : ∃ m, k = m + 1 := ⟨k - 1, by omega⟩
    have hlt : i < l.length := by omega
    simp only [laws_toScarecrowS.l0, laws_toScarecrow.f]
    rw [if_pos (by omega), if_pos (by omega), sc_rd0 l i hlt]
    simp only [Option.bind_some]
    rw [if_pos (by omega), wrap_next i l.length hlt (by omega), Int.toNat_natCast]
    refine ih k (i + 1) _ (by omega) (by omega) (by omega) (by simpa using hr) ?_
    rw [List.take_succ_eq_append_getElem (by simp; omega), List.take_succ_eq_append_getElem hlt, List.map_append, ← ht]
    simp only [List.getElem_set_self, List.take_set, List.map_cons, List.map_nil, scCv]
    rw [List.set_eq_of_length_le (by simp; omega)]
theorem sc_toF (l : List S75) (hn : l.length ≤ 1048576) (k : Nat) (hk : l.length < k) : laws_toScarecrowS.f k l = some (l.map scCv) := by
  unfold laws_toScarecrowS.f
  rw [if_pos (by omega), if_pos (by simp; omega)]
  exact sc_to l hn l.length _ 0 _ (by omega) (by omega) (by omega) (by simp) (by simp)
theorem sc_eq (l : List S73) (hn : l.length ≤ 1048576) (d : Nat) : ∀ (k i : Nat), i ≤ l.length → l.length - i = d → d < k → laws_eqScarecrowS.l0 k l l i = some true := by
  induction d with
  | zero =>
    intro k i h1 h2 h3
    obtain ⟨k, rfl⟩ : ∃ m, k = m + 1 := ⟨k - 1, by omega⟩
    simp only [laws_eqScarecrowS.l0]
    rw [if_neg (by omega)]
  | succ d ih =>
    intro k i h1 h2 h3
    obtain ⟨k, rfl⟩ : ∃ m, k = m + 1 := ⟨k - 1, by omega⟩
    have hlt : i < l.length := by omega
    simp only [laws_eqScarecrowS.l0, laws_eqScarecrow.f]
    rw [if_pos (by omega), if_pos (by omega), if_pos (by omega)]
    simp only [if_true, Option.bind_some]
    rw [wrap_next i l.length hlt (by omega)]
    exact ih k (i + 1) (by omega) (by omega) (by omega)
theorem sc_eqF (l : List S73) (hn : l.length ≤ 1048576) (k : Nat) (hk : l.length < k) : laws_eqScarecrowS.f k l l = some true := by
  unfold laws_eqScarecrowS.f
  rw [if_pos rfl]
  exact sc_eq l hn l.length _ 0 (by omega) (by omega) (by omega)


theorem empty_app (x : ByteArray) : (⟨#[]⟩ : ByteArray) ++ x = x := by
  apply ByteArray.ext
  simp

theorem sc_plain (x : S73) (h : scWf x) : impl_Scarecrow_isPlain.f x.f0 x.f1 x.f2 = some (scOk x) := by
  simp only [scWf] at h
  have e0 : wrap64 x.f0 = x.f0 := by unfold wrap64; omega
  have e1 : wrap64 x.f1 = x.f1 := by unfold wrap64; omega
  have e2 : wrap64 x.f2 = x.f2 := by unfold wrap64; omega
  simp only [impl_Scarecrow_isPlain.f, impl_isPower.f, impl_within.f, e0, e1, e2, scOk]
  by_cases a0 : x.f0 ≥ 0 <;> by_cases b0 : x.f0 ≤ 99 <;> by_cases a1 : x.f1 ≥ 1 <;> by_cases b1 : x.f1 ≤ 1000 <;> by_cases a2 : x.f2 ≥ 0 <;> by_cases b2 : x.f2 ≤ 30 <;> simp [a0, b0, a1, b1, a2, b2] <;> omega
theorem sc_shape (x : S73) (h : scWf x) : spec_l03Shape.f x.f0 x.f1 x.f2 = some (scOk x) := by
  simp only [scWf] at h
  have e0 : wrap64 x.f0 = x.f0 := by unfold wrap64; omega
  have e1 : wrap64 x.f1 = x.f1 := by unfold wrap64; omega
  have e2 : wrap64 x.f2 = x.f2 := by unfold wrap64; omega
  simp only [spec_l03Shape.f, spec_l00In.f, e0, e1, e2, scOk]
  by_cases a0 : x.f0 ≥ 0 <;> by_cases b0 : x.f0 ≤ 99 <;> by_cases a1 : x.f1 ≥ 1 <;> by_cases b1 : x.f1 ≤ 1000 <;> by_cases a2 : x.f2 ≥ 0 <;> by_cases b2 : x.f2 ≤ 30 <;> simp [a0, b0, a1, b1, a2, b2] <;> omega

theorem sc_specText (l : List S73) (hn : l.length ≤ 20) (hok : ∀ x ∈ l, scOk x = true) (d : Nat) : ∀ (k i : Nat), i ≤ l.length → l.length - i = d → 2 * d + 8 < k →
    spec_l03Text.l0 k l (joinB ((l.take i).map scW) sp) i = some (joinB (l.map scW) sp) := by
  induction d with
  | zero =>
    intro k i h1 h2 h3
    obtain ⟨k, rfl⟩ : ∃ m, k = m + 1 := ⟨k - 1, by omega⟩
    obtain rfl : i = l.length := by omega
    simp only [spec_l03Text.l0]
    rw [if_neg (by omega), List.take_length]
  | succ d ih =>
    intro k i h1 h2 h3
    obtain ⟨k, rfl⟩ : ∃ m, k = m + 1 := ⟨k - 1, by omega⟩
    have hlt : i < l.length := by omega
    have hx := hok l[i] (List.getElem_mem hlt)
    have hb := hx
    simp only [scOk, decide_eq_true_eq] at hb
    have hs := join_size ((l.take i).map scW) 100 (by
      intro y hy
      obtain ⟨z, hz, rfl⟩ := List.mem_map.1 hy
      exact scW_size z (hok z (List.mem_of_mem_take hz)))
    rw [List.length_map, List.length_take, Nat.min_eq_left h1] at hs
    have hl := scW_size l[i] hx
    have s0 := decB_size l[i].f0 (by omega) (by omega)
    have e0 : wrap64 l[i].f0 = l[i].f0 := by unfold wrap64; omega
    have s1 := decB_size l[i].f1 (by omega) (by omega)
    have e1 : wrap64 l[i].f1 = l[i].f1 := by unfold wrap64; omega
    have s2 := decB_size l[i].f2 (by omega) (by omega)
    have e2 : wrap64 l[i].f2 = l[i].f2 := by unfold wrap64; omega
    simp only [spec_l03Text.l0]
    rw [if_pos (by omega)]
    by_cases h0 : i = 0
    · subst h0
      rw [if_neg (by omega), if_pos (by omega), sc_rd l 0 hlt]
      simp only [List.take_zero, List.map_nil, joinB_nil] at hs ⊢
      rw [e0, decimal_ok k (by omega) _ (by omega) (by omega)]
      simp only [Option.bind_some]
      rw [if_pos (by (try simp only [ByteArray.size_append, Pz.sz1]); omega), e1, decimal_ok k (by omega) _ (by omega) (by omega)]
      simp only [Option.bind_some]
      rw [if_pos (by (try simp only [ByteArray.size_append, Pz.sz1]); omega), if_pos (by (try simp only [ByteArray.size_append, Pz.sz1]); omega), e2, decimal_ok k (by omega) _ (by omega) (by omega)]
      simp only [Option.bind_some]
      rw [if_pos (by (try simp only [ByteArray.size_append, Pz.sz1]); omega), if_pos (by (try simp only [ByteArray.size_append, Pz.sz1, Pz.sz0]); omega), wrap_next 0 l.length hlt (by omega)]
      have := ih k (0 + 1) (by omega) (by omega) (by omega)
      rw [map_take_succ _ _ _ hlt, List.take_zero, List.map_nil, List.nil_append, joinB_one] at this
      rw [empty_app]
      exact this
    · have hne : (l.take i).map scW ≠ [] := by
        intro h
        have := congrArg List.length h
        rw [List.length_map, List.length_take, Nat.min_eq_left h1] at this
        exact h0 this
      rw [if_pos (by omega), if_pos (by omega), if_pos (by omega), sc_rd l i hlt]
      rw [e0, decimal_ok k (by omega) _ (by omega) (by omega)]
      simp only [Option.bind_some]
      rw [if_pos (by (try simp only [ByteArray.size_append, Pz.sz1]); omega), e1, decimal_ok k (by omega) _ (by omega) (by omega)]
      simp only [Option.bind_some]
      rw [if_pos (by (try simp only [ByteArray.size_append, Pz.sz1]); omega), if_pos (by (try simp only [ByteArray.size_append, Pz.sz1]); omega), e2, decimal_ok k (by omega) _ (by omega) (by omega)]
      simp only [Option.bind_some]
      rw [if_pos (by (try simp only [ByteArray.size_append, Pz.sz1]); omega), if_pos (by (try simp only [ByteArray.size_append, Pz.sz1]); omega), wrap_next i l.length hlt (by omega)]
      have := ih k (i + 1) (by omega) (by omega) (by omega)
      rw [map_take_succ _ _ _ hlt, joinB_snoc _ _ _ hne] at this
      exact this

theorem sc_impl (l : List S73) (hn : l.length ≤ 1048576) (hw : ∀ x ∈ l, scWf x) (d : Nat) : ∀ (k i : Nat), i ≤ l.length → l.length - i = d → 2 * d + 2 < k → (∀ x ∈ l.take i, scOk x = true) → (0 < i → l.length ≤ 20) →
    impl_ScaresText.l0 k l ((l.take i).map scW) l (l.length : Int) i = some (scText l) := by
  induction d with
  | zero =>
    intro k i h1 h2 h3 hok hle
    obtain ⟨k, rfl⟩ : ∃ m, k = m + 1 := ⟨k - 1, by omega⟩
    obtain rfl : i = l.length := by omega
    rw [List.take_length] at hok ⊢
    rw [impl_ScaresText.l0, if_neg (by omega)]
    have hlen : l.length ≤ 20 := by
      by_cases h : 0 < l.length
      · exact hle h
      · omega
    have hs := join_size (l.map scW) 100 (by
      intro y hy
      obtain ⟨z, hz, rfl⟩ := List.mem_map.1 hy
      exact scW_size z (hok z hz))
    rw [List.length_map] at hs
    have hs' : (joinB (l.map scW) ⟨#[32]⟩).size ≤ (100 + 1) * l.length := hs
    unfold strings_Join.f
    rw [if_pos (by rw [List.length_map]; omega), sc_good l hok hlen]
    rfl
  | succ d ih =>
    intro k i h1 h2 h3 hok hle
    obtain ⟨k, rfl⟩ : ∃ m, k = m + 1 := ⟨k - 1, by omega⟩
    obtain ⟨k, rfl⟩ : ∃ m, k = m + 1 := ⟨k - 1, by omega⟩
    have hlt : i < l.length := by omega
    have hx := hw l[i] (List.getElem_mem hlt)
    rw [impl_ScaresText.l0, if_pos (by omega), if_pos (by omega), if_pos (by omega), sc_rd l i hlt, sc_plain l[i] hx]
    simp only [Option.bind_some]
    by_cases ho : scOk l[i] = true
    · rw [if_pos ho, impl_ScaresText.j1]
      by_cases hl : l.length ≤ 20
      · rw [if_neg (by simp; omega)]
        have hb := ho
        simp only [scOk, decide_eq_true_eq] at hb
        have s0 := decB_size l[i].f0 (by omega) (by omega)
        have s1 := decB_size l[i].f1 (by omega) (by omega)
        have s2 := decB_size l[i].f2 (by omega) (by omega)
        have q0 : impl_decimal_int16.f l[i].f0 = some (decB l[i].f0) := by unfold impl_decimal_int16.f; rw [if_pos (by omega)]
        have q1 : impl_decimal_int16.f l[i].f1 = some (decB l[i].f1) := by unfold impl_decimal_int16.f; rw [if_pos (by omega)]
        have q2 : impl_decimal_int8.f l[i].f2 = some (decB l[i].f2) := by unfold impl_decimal_int8.f; rw [if_pos (by omega)]
        rw [q0]
        simp only [Option.bind_some]
        rw [if_pos (by (try simp only [ByteArray.size_append, Pz.sz1]); omega), q1]
        simp only [Option.bind_some]
        rw [if_pos (by (try simp only [ByteArray.size_append, Pz.sz1]); omega), if_pos (by (try simp only [ByteArray.size_append, Pz.sz1]); omega), q2]
        simp only [Option.bind_some]
        rw [if_pos (by (try simp only [ByteArray.size_append, Pz.sz1]); omega), if_pos (by rw [List.length_map, List.length_take, Nat.min_eq_left h1]; omega), wrap_next i l.length hlt (by omega)]
        have := ih k (i + 1) (by omega) (by omega) (by omega) (by
          intro x h
          rw [List.take_succ_eq_append_getElem hlt] at h
          rcases List.mem_append.1 h with h | h
          · exact hok x h
          · rw [List.mem_singleton.1 h]; exact ho) (fun _ => hl)
        rw [map_take_succ _ _ _ hlt] at this
        exact this
      · rw [if_pos (by simp; omega), sc_long l (by omega)]
    · rw [if_neg ho, impl_ScaresText.j1, if_pos rfl, sc_bad l (List.getElem_mem hlt) (by simpa using ho)]

theorem sc_spec (l : List S73) (hn : l.length ≤ 1048576) (hw : ∀ x ∈ l, scWf x) (d : Nat) : ∀ (k i : Nat), i ≤ l.length → l.length - i = d → d + 100 < k → (∀ x ∈ l.take i, scOk x = true) →
    spec_ScaresText.l0 k l i = some (scText l) := by
  induction d with
  | zero =>
    intro k i h1 h2 h3 hok
    obtain ⟨k, rfl⟩ : ∃ m, k = m + 1 := ⟨k - 1, by omega⟩
    obtain rfl : i = l.length := by omega
    rw [List.take_length] at hok
    simp only [spec_ScaresText.l0]
    rw [if_neg (by omega)]
    by_cases hl : l.length ≤ 20
    · rw [if_neg (by omega), sc_good l hok hl]
      have := sc_specText l hl hok l.length k 0 (by omega) (by omega) (by omega)
      rw [spec_l03Text.f]
      rw [List.take_zero, List.map_nil, joinB_nil] at this
      rw [show ((0 : Int)) = ((0 : Nat) : Int) from rfl, this]
      rfl
    · rw [if_pos (by omega), sc_long l (by omega)]
  | succ d ih =>
    intro k i h1 h2 h3 hok
    obtain ⟨k, rfl⟩ : ∃ m, k = m + 1 := ⟨k - 1, by omega⟩
    have hlt : i < l.length := by omega
    have hx := hw l[i] (List.getElem_mem hlt)
    simp only [spec_ScaresText.l0]
    rw [if_pos (by omega), if_pos (by omega), sc_rd l i hlt, sc_shape l[i] hx]
    simp only [Option.bind_some]
    by_cases ho : scOk l[i] = true
    · rw [if_pos ho, wrap_next i l.length hlt (by omega)]
      refine ih k (i + 1) (by omega) (by omega) (by omega) ?_
      intro x h
      rw [List.take_succ_eq_append_getElem hlt] at h
      rcases List.mem_append.1 h with h | h
      · exact hok x h
      · rw [List.mem_singleton.1 h]; exact ho
    · rw [if_neg ho, sc_bad l (List.getElem_mem hlt) (by simpa using ho)]
theorem sc_specF (l : List S73) (hn : l.length ≤ 1048576) (hw : ∀ x ∈ l, scWf x) (k : Nat) (hk : l.length + 101 < k) : spec_ScaresText.f k l = some (scText l) :=
  sc_spec l hn hw l.length _ 0 (by omega) (by omega) (by omega) (by simp)

theorem sc_law (l : List S75) (hw : ∀ x ∈ l, scWf0 x) (hL : l.length ≤ 9223372036854775807) : ∃ k, laws_FnExactScaresText.f k l = some true := by
  by_cases hbig : 1048576 < l.length
  · by_cases hwr : wrap64 (1048576 - (l.length : Int)) < 0
    · refine ⟨0, ?_⟩
      unfold laws_FnExactScaresText.f laws_szScarecrowS.f
      rw [if_pos hwr, Option.bind_some, if_pos (by omega)]
    · exfalso
      apply hwr
      have e : wrap64 (1048576 - (l.length : Int)) = 1048576 - (l.length : Int) := by unfold wrap64; omega
      rw [e]
      omega
  · refine ⟨2 * l.length + 200, ?_⟩
    unfold laws_FnExactScaresText.f laws_szScarecrowS.f
    have e : wrap64 (1048576 - (l.length : Int)) = 1048576 - (l.length : Int) := by unfold wrap64; omega
    have hw' : ∀ x ∈ l.map scCv, scWf x := by
      intro x hx
      obtain ⟨y, hy, rfl⟩ := List.mem_map.1 hx
      exact hw y hy
    rw [e, if_neg (by omega), Option.bind_some, if_neg (by omega), sc_toF l (by omega) _ (by omega)]
    simp only [Option.bind_some]
    rw [sc_specF _ (by rw [List.length_map]; omega) hw' _ (by rw [List.length_map]; omega)]
    simp only [Option.bind_some]
    have hi := sc_impl (l.map scCv) (by rw [List.length_map]; omega) hw' (l.map scCv).length (2 * l.length + 200) 0 (by omega) (by omega) (by rw [List.length_map]; omega) (by simp) (by omega)
    rw [List.take_zero, List.map_nil] at hi
    have hi' : impl_ScaresText.f (2 * l.length + 200) (l.map scCv) = some (scText (l.map scCv)) := hi
    rw [hi']
    simp only [Option.bind_some]
    rw [if_pos trivial, sc_eqF _ (by rw [List.length_map]; omega) _ (by rw [List.length_map]; omega)]
    rfl

end Go.Proofs.YtcifgakahpnjiaaDoor.TsP
