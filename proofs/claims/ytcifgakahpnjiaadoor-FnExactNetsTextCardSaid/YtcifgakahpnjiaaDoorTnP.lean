/- Plain lemmas: what the printed functions of the scarecrows' and nets' texts answer. -/
import Derived.Test.YtcifgakahpnjiaaDoorTn
namespace Go.Proofs.YtcifgakahpnjiaaDoor.TnP
open Go.RowKit Go.Proofs.YtcifgakahpnjiaaDoorW.PrintWords Go.Proofs.YtcifgakahpnjiaaDoorW.PrintLast Go.Proofs.YtcifgakahpnjiaaDoorW.PrintMore Go.Proofs.YtcifgakahpnjiaaDoor Go.Proofs.YtcifgakahpnjiaaDoor.Tn
set_option linter.unusedSimpArgs false
set_option linter.unusedVariables false

theorem getD_lt {α : Type} (l : List α) (d : α) {k : Nat} (h : k < l.length) : l.getD k d = l[k] := by
  simp [List.getD, List.getElem?_eq_getElem h]
theorem wrap_next (i n : Nat) (h : i < n) (hn : n ≤ 9223372036854775807) : wrap64 ((i : Int) + 1) = ((i + 1 : Nat) : Int) := by unfold wrap64; omega
theorem dec_one (n : Int) (h0 : 0 ≤ n) (h1 : n < 9223372036854775807) : strOfNums [(wrap64 (48 + Int.tmod n 10)) % 256] = ⟨#[UInt8.ofNat (48 + n.toNat % 10)]⟩ := by
  obtain ⟨u, rfl⟩ := Int.eq_ofNat_of_zero_le h0
  have e1 : Int.tmod (u : Int) 10 = ((u % 10 : Nat) : Int) := by
    rw [Int.tmod_eq_emod_of_nonneg (by omega)]; omega
  rw [e1]
  have e2 : (wrap64 (48 + ((u % 10 : Nat) : Int))) % 256 = ((48 + u % 10 : Nat) : Int) := by unfold wrap64; omega
  rw [e2]
  show (⟨([((48 + u % 10 : Nat) : Int)].map fun n => UInt8.ofNat n.toNat).toArray⟩ : ByteArray) = _
  simp only [List.map_cons, List.map_nil, Int.toNat_natCast]

theorem decimal_is : ∀ (k : Nat) (n : Int), 0 ≤ n → n < 1000000 → n < 10 ^ (k + 1) → spec_Decimal.f (k + 1) n = some (decB n) := by
  intro k
  induction k with
  | zero =>
    intro n h0 _ h1
    simp only [spec_Decimal.f]
    rw [if_pos (by omega), dec_one n h0 (by omega)]
    unfold decB Lib.itoa
    rw [if_neg (by omega), Lib.decDigits, dif_pos (by omega)]
    congr 5
    omega
  | succ k ih =>
    intro n h0 hm h1
    rw [spec_Decimal.f]
    by_cases hn : n < 10
    · rw [if_pos hn, dec_one n h0 (by omega)]
      unfold decB Lib.itoa
      rw [if_neg (by omega), Lib.decDigits, dif_pos (by omega)]
      congr 5
      omega
    · rw [if_neg hn]
      have e : wrap64 (Int.tdiv n 10) = n / 10 := by
        rw [Int.tdiv_eq_ediv_of_nonneg h0]
        unfold wrap64
        omega
      have h10 : n / 10 < 10 ^ (k + 1) := by
        have : (10 : Int) ^ (k + 1 + 1) = 10 ^ (k + 1) * 10 := by rw [Int.pow_succ]
        omega
      rw [e, ih (n / 10) (by omega) (by omega) h10]
      simp only [Option.bind_some]
      rw [dec_one n h0 (by omega)]
      have hs := decB_size (n / 10) (by omega) (by omega)
      rw [if_pos (by rw [Pz.sz1]; omega)]
      congr 1
      unfold decB Lib.itoa
      have e3 : Lib.decDigits n.toNat = Lib.decDigits (n.toNat / 10) ++ [UInt8.ofNat (48 + n.toNat % 10)] := by
        rw [Lib.decDigits, dif_neg (by omega)]
      have e4 : (n / 10).toNat = n.toNat / 10 := by omega
      rw [if_neg (by omega), if_neg (by omega), e3, e4]
      apply ByteArray.ext
      rw [ByteArray.data_append]
      simp only [List.append_toArray]
theorem decimal_ok (k : Nat) (hk : 6 ≤ k) (n : Int) (h0 : 0 ≤ n) (h1 : n < 1000000) : spec_Decimal.f k n = some (decB n) := by
  obtain ⟨m, rfl⟩ : ∃ m, k = m + 1 := ⟨k - 1, by omega⟩
  refine decimal_is m n h0 h1 ?_
  have : (10 : Int) ^ 6 ≤ 10 ^ (m + 1) := by
    obtain ⟨j, rfl⟩ : ∃ j, m = 5 + j := ⟨m - 5, by omega⟩
    rw [show 5 + j + 1 = 6 + j by omega, Int.pow_add]
    have : (1 : Int) ≤ 10 ^ j := by exact_mod_cast Nat.one_le_pow j 10 (by omega)
    omega
  omega


abbrev sp : ByteArray := ⟨#[32]⟩
theorem joinB_nil (s : ByteArray) : joinB [] s = ⟨#[]⟩ := by simp [joinB, Lib.join]
theorem joinB_one (x s : ByteArray) : joinB [x] s = x := by
  obtain ⟨d⟩ := x
  simp [joinB, Lib.join]
theorem intercalate_snoc (s : List UInt8) (l : List (List UInt8)) (x : List UInt8) (h : l ≠ []) : s.intercalate (l ++ [x]) = s.intercalate l ++ s ++ x := by
  induction l with
  | nil => exact absurd rfl h
  | cons a l ih =>
    cases l with
    | nil => simp [List.intercalate, List.intersperse]
    | cons b l =>
      have := ih (by simp)
      simp only [List.intercalate, List.cons_append, List.intersperse, List.flatten_cons] at this ⊢
      rw [this]
      simp
theorem joinB_snoc (l : List ByteArray) (x s : ByteArray) (h : l ≠ []) : joinB (l ++ [x]) s = (joinB l s ++ s) ++ x := by
  apply ByteArray.ext
  simp only [joinB, Lib.join, List.map_append, List.map_cons, List.map_nil, ByteArray.data_append]
  rw [intercalate_snoc _ _ _ (by simpa using h)]
  apply Array.ext'
  simp
theorem join_size (l : List ByteArray) (c : Nat) (h : ∀ x ∈ l, x.size ≤ c) : (joinB l sp).size ≤ (c + 1) * l.length := by
  suffices ∀ r : List ByteArray, (∀ x ∈ r, x.size ≤ c) → (joinB r.reverse sp).size ≤ (c + 1) * r.length by
    have := this l.reverse (by simpa using h)
    simpa using this
  intro r
  induction r with
  | nil => intro _; simp [joinB_nil, Pz.sz0]
  | cons x r ih =>
    intro h
    have h1 := ih (fun y hy => h y (by simp [hy]))
    have h2 := h x (by simp)
    rw [List.reverse_cons, List.length_cons, Nat.mul_add]
    by_cases hr : r = []
    · subst hr
      simp only [List.reverse_nil, List.nil_append, joinB_one]
      omega
    · rw [joinB_snoc _ _ _ (by simpa using hr), ByteArray.size_append, ByteArray.size_append, Pz.sz1]
      omega
theorem map_take_succ {α : Type} (w : α → ByteArray) (l : List α) (i : Nat) (h : i < l.length) : (l.take (i + 1)).map w = (l.take i).map w ++ [w l[i]] := by
  rw [List.take_succ_eq_append_getElem h, List.map_append]; rfl

/-! ## Net -/
def ntW (x : S81) : ByteArray := (((((decB x.f0 ++ ⟨#[44]⟩) ++ decB x.f1) ++ ⟨#[58]⟩) ++ decB x.f2) ++ ⟨#[120]⟩) ++ decB x.f3
def ntOk (x : S81) : Bool := decide (0 ≤ x.f0 ∧ x.f0 ≤ 9 ∧ 0 ≤ x.f1 ∧ x.f1 ≤ 9 ∧ 1 ≤ x.f2 ∧ x.f2 ≤ 10 ∧ 1 ≤ x.f3 ∧ x.f3 ≤ 10)
abbrev ntWf (x : S81) : Prop := (-128 ≤ x.f0 ∧ x.f0 ≤ 127) ∧ (-128 ≤ x.f1 ∧ x.f1 ≤ 127) ∧ (-128 ≤ x.f2 ∧ x.f2 ≤ 127) ∧ (-128 ≤ x.f3 ∧ x.f3 ≤ 127)
abbrev ntWf0 (x : S83) : Prop := (-128 ≤ x.f0 ∧ x.f0 ≤ 127) ∧ (-128 ≤ x.f1 ∧ x.f1 ≤ 127) ∧ (-128 ≤ x.f2 ∧ x.f2 ≤ 127) ∧ (-128 ≤ x.f3 ∧ x.f3 ≤ 127)
theorem ntW_size (x : S81) (h : ntOk x = true) : (ntW x).size ≤ 100 := by
  simp only [ntOk, decide_eq_true_eq] at h
  have h0 := decB_size x.f0 (by omega) (by omega)
  have h1 := decB_size x.f1 (by omega) (by omega)
  have h2 := decB_size x.f2 (by omega) (by omega)
  have h3 := decB_size x.f3 (by omega) (by omega)
  simp only [ntW, ByteArray.size_append, Pz.sz1]
  omega
def ntText (l : List S81) : ByteArray := if l.all ntOk && decide (l.length ≤ 20) then joinB (l.map ntW) sp else ⟨#[]⟩
theorem nt_long (l : List S81) (h : 20 < l.length) : ntText l = ⟨#[]⟩ := by
  unfold ntText
  rw [if_neg]
  simp
  omega
theorem nt_bad (l : List S81) {x} (h : x ∈ l) (hx : ntOk x = false) : ntText l = ⟨#[]⟩ := by
  unfold ntText
  rw [if_neg]
  simp
  intro h1
  have := h1 x h
  rw [hx] at this
  cases this
theorem nt_good (l : List S81) (h : ∀ x ∈ l, ntOk x = true) (h1 : l.length ≤ 20) : ntText l = joinB (l.map ntW) sp := by
  unfold ntText
  rw [if_pos]
  simp
  exact ⟨h, h1⟩
theorem nt_rd (l : List S81) (i : Nat) (h : i < l.length) : rd_T81 l i = l[i] := by
  unfold rd_T81; rw [Int.toNat_natCast, getD_lt _ _ h]
theorem nt_rd0 (l : List S83) (i : Nat) (h : i < l.length) : rd_T83 l i = l[i] := by
  unfold rd_T83; rw [Int.toNat_natCast, getD_lt _ _ h]
def ntCv (x : S83) : S81 := ⟨x.f0, x.f1, x.f2, x.f3⟩
theorem nt_to (l : List S83) (hn : l.length ≤ 1048576) (d : Nat) : ∀ (k i : Nat) (r : List S81), i ≤ l.length → l.length - i = d → d < k → r.length = l.length → r.take i = (l.take i).map ntCv →
    laws_toNetS.l0 k l r i = some (l.map ntCv) := by
  induction d with
  | zero =>
    intro k i r h1 h2 h3 hr ht
    obtain ⟨k, rfl⟩ : ∃ m, k = m + 1 := ⟨k - 1, by omega⟩
    obtain rfl : i = l.length := by omega
    simp only [laws_toNetS.l0]
    rw [if_neg (by omega)]
    rw [List.take_length, ← hr, List.take_length] at ht
    rw [ht]
  | succ d ih =>
    intro k i r h1 h2 h3 hr ht
    obtain ⟨k, rfl⟩ : ∃ m, k = m + 1 := ⟨k - 1, by omega⟩
    have hlt : i < l.length := by omega
    simp only [laws_toNetS.l0, laws_toNet.f]
    rw [if_pos (by omega), if_pos (by omega), nt_rd0 l i hlt]
    simp only [Option.bind_some]
    rw [if_pos (by omega), wrap_next i l.length hlt (by omega), Int.toNat_natCast]
    refine ih k (i + 1) _ (by omega) (by omega) (by omega) (by simpa using hr) ?_
    rw [List.take_succ_eq_append_getElem (by simp; omega), List.take_succ_eq_append_getElem hlt, List.map_append, ← ht]
    simp only [List.getElem_set_self, List.take_set, List.map_cons, List.map_nil, ntCv]
    rw [List.set_eq_of_length_le (by simp; omega)]
theorem nt_toF (l : List S83) (hn : l.length ≤ 1048576) (k : Nat) (hk : l.length < k) : laws_toNetS.f k l = some (l.map ntCv) := by
  unfold laws_toNetS.f
  rw [if_pos (by omega), if_pos (by simp; omega)]
  exact nt_to l hn l.length _ 0 _ (by omega) (by omega) (by omega) (by simp) (by simp)
theorem nt_eq (l : List S81) (hn : l.length ≤ 1048576) (d : Nat) : ∀ (k i : Nat), i ≤ l.length → l.length - i = d → d < k → laws_eqNetS.l0 k l l i = some true := by
  induction d with
  | zero =>
    intro k i h1 h2 h3
    obtain ⟨k, rfl⟩ : ∃ m, k = m + 1 := ⟨k - 1, by omega⟩
    simp only [laws_eqNetS.l0]
    rw [if_neg (by omega)]
  | succ d ih =>
    intro k i h1 h2 h3
    obtain ⟨k, rfl⟩ : ∃ m, k = m + 1 := ⟨k - 1, by omega⟩
    have hlt : i < l.length := by omega
    simp only [laws_eqNetS.l0, laws_eqNet.f]
    rw [if_pos (by omega), if_pos (by omega), if_pos (by omega)]
    simp only [if_true, Option.bind_some]
    rw [wrap_next i l.length hlt (by omega)]
    exact ih k (i + 1) (by omega) (by omega) (by omega)
theorem nt_eqF (l : List S81) (hn : l.length ≤ 1048576) (k : Nat) (hk : l.length < k) : laws_eqNetS.f k l l = some true := by
  unfold laws_eqNetS.f
  rw [if_pos rfl]
  exact nt_eq l hn l.length _ 0 (by omega) (by omega) (by omega)

theorem empty_app (x : ByteArray) : (⟨#[]⟩ : ByteArray) ++ x = x := by
  apply ByteArray.ext
  simp

theorem nt_plain (x : S81) (h : ntWf x) : impl_Net_isPlain.f x.f0 x.f1 x.f2 x.f3 = some (ntOk x) := by
  simp only [ntWf] at h
  have e0 : wrap64 x.f0 = x.f0 := by unfold wrap64; omega
  have e1 : wrap64 x.f1 = x.f1 := by unfold wrap64; omega
  have e2 : wrap64 x.f2 = x.f2 := by unfold wrap64; omega
  have e3 : wrap64 x.f3 = x.f3 := by unfold wrap64; omega
  simp only [impl_Net_isPlain.f, impl_within.f, e0, e1, e2, e3, ntOk]
  by_cases a0 : x.f0 ≥ 0 <;> by_cases b0 : x.f0 ≤ 9 <;> by_cases a1 : x.f1 ≥ 0 <;> by_cases b1 : x.f1 ≤ 9 <;> by_cases a2 : x.f2 ≥ 1 <;> by_cases b2 : x.f2 ≤ 10 <;> by_cases a3 : x.f3 ≥ 1 <;> by_cases b3 : x.f3 ≤ 10 <;> simp [a0, b0, a1, b1, a2, b2, a3, b3] <;> omega

theorem nt_specText (l : List S81) (hn : l.length ≤ 20) (hok : ∀ x ∈ l, ntOk x = true) (d : Nat) : ∀ (k i : Nat), i ≤ l.length → l.length - i = d → 2 * d + 8 < k →
    spec_l04Text.l0 k l (joinB ((l.take i).map ntW) sp) i = some (joinB (l.map ntW) sp) := by
  induction d with
  | zero =>
    intro k i h1 h2 h3
    obtain ⟨k, rfl⟩ : ∃ m, k = m + 1 := ⟨k - 1, by omega⟩
    obtain rfl : i = l.length := by omega
    simp only [spec_l04Text.l0]
    rw [if_neg (by omega), List.take_length]
  | succ d ih =>
    intro k i h1 h2 h3
    obtain ⟨k, rfl⟩ : ∃ m, k = m + 1 := ⟨k - 1, by omega⟩
    have hlt : i < l.length := by omega
    have hx := hok l[i] (List.getElem_mem hlt)
    have hb := hx
    simp only [ntOk, decide_eq_true_eq] at hb
    have hs := join_size ((l.take i).map ntW) 100 (by
      intro y hy
      obtain ⟨z, hz, rfl⟩ := List.mem_map.1 hy
      exact ntW_size z (hok z (List.mem_of_mem_take hz)))
    rw [List.length_map, List.length_take, Nat.min_eq_left h1] at hs
    have hl := ntW_size l[i] hx
    have s0 := decB_size l[i].f0 (by omega) (by omega)
    have e0 : wrap64 l[i].f0 = l[i].f0 := by unfold wrap64; omega
    have s1 := decB_size l[i].f1 (by omega) (by omega)
    have e1 : wrap64 l[i].f1 = l[i].f1 := by unfold wrap64; omega
    have s2 := decB_size l[i].f2 (by omega) (by omega)
    have e2 : wrap64 l[i].f2 = l[i].f2 := by unfold wrap64; omega
    have s3 := decB_size l[i].f3 (by omega) (by omega)
    have e3 : wrap64 l[i].f3 = l[i].f3 := by unfold wrap64; omega
    have tail : ∀ (m : Nat) (out : ByteArray), 2 * d + 8 < m → out.size ≤ 10000 → (out ++ ntW l[i] = joinB ((l.take (i + 1)).map ntW) sp) → spec_l04Text.j1 (m + 1) l out i = some (joinB (l.map ntW) sp) := by
      intro m out hm ho heq
      rw [spec_l04Text.j1]
      rw [if_pos (by omega), if_pos (by omega), nt_rd l i hlt]
      rw [e0, decimal_ok m (by omega) _ (by omega) (by omega)]
      simp only [Option.bind_some]
      rw [if_pos (by (try simp only [ByteArray.size_append, Pz.sz1]); omega), e1, decimal_ok m (by omega) _ (by omega) (by omega)]
      simp only [Option.bind_some]
      rw [if_pos (by (try simp only [ByteArray.size_append, Pz.sz1]); omega), if_pos (by (try simp only [ByteArray.size_append, Pz.sz1]); omega), e2, decimal_ok m (by omega) _ (by omega) (by omega)]
      simp only [Option.bind_some]
      rw [if_pos (by (try simp only [ByteArray.size_append, Pz.sz1]); omega), if_pos (by (try simp only [ByteArray.size_append, Pz.sz1]); omega), e3, decimal_ok m (by omega) _ (by omega) (by omega)]
      simp only [Option.bind_some]
      rw [if_pos (by (try simp only [ByteArray.size_append, Pz.sz1]); omega), if_pos (by (try simp only [ByteArray.size_append, Pz.sz1]); omega), wrap_next i l.length hlt (by omega)]
      have := ih m (i + 1) (by omega) (by omega) (by omega)
      rw [← heq] at this
      exact this
    obtain ⟨k, rfl⟩ : ∃ m, k = m + 1 := ⟨k - 1, by omega⟩
    rw [spec_l04Text.l0]
    rw [if_pos (by omega)]
    by_cases h0 : i = 0
    · subst h0
      rw [if_neg (by omega)]
      exact tail k _ (by omega) (by omega) (by rw [map_take_succ _ _ _ hlt, List.take_zero, List.map_nil, List.nil_append, joinB_one, joinB_nil, empty_app])
    · have hne : (l.take i).map ntW ≠ [] := by
        intro h
        have := congrArg List.length h
        rw [List.length_map, List.length_take, Nat.min_eq_left h1] at this
        exact h0 this
      rw [if_pos (by omega), if_pos (by omega)]
      exact tail k _ (by omega) (by rw [ByteArray.size_append, Pz.sz1]; omega) (by rw [map_take_succ _ _ _ hlt, joinB_snoc _ _ _ hne])

theorem nt_impl (l : List S81) (hn : l.length ≤ 1048576) (hw : ∀ x ∈ l, ntWf x) (d : Nat) : ∀ (k i : Nat), i ≤ l.length → l.length - i = d → 2 * d + 2 < k → (∀ x ∈ l.take i, ntOk x = true) → (0 < i → l.length ≤ 20) →
    impl_NetsText.l0 k l ((l.take i).map ntW) l (l.length : Int) i = some (ntText l) := by
  induction d with
  | zero =>
    intro k i h1 h2 h3 hok hle
    obtain ⟨k, rfl⟩ : ∃ m, k = m + 1 := ⟨k - 1, by omega⟩
    obtain rfl : i = l.length := by omega
    rw [List.take_length] at hok ⊢
    rw [impl_NetsText.l0, if_neg (by omega)]
    have hlen : l.length ≤ 20 := by
      by_cases h : 0 < l.length
      · exact hle h
      · omega
    have hs := join_size (l.map ntW) 100 (by
      intro y hy
      obtain ⟨z, hz, rfl⟩ := List.mem_map.1 hy
      exact ntW_size z (hok z hz))
    rw [List.length_map] at hs
    have hs' : (joinB (l.map ntW) ⟨#[32]⟩).size ≤ (100 + 1) * l.length := hs
    unfold strings_Join.f
    rw [if_pos (by rw [List.length_map]; omega), nt_good l hok hlen]
    rfl
  | succ d ih =>
    intro k i h1 h2 h3 hok hle
    obtain ⟨k, rfl⟩ : ∃ m, k = m + 1 := ⟨k - 1, by omega⟩
    obtain ⟨k, rfl⟩ : ∃ m, k = m + 1 := ⟨k - 1, by omega⟩
    have hlt : i < l.length := by omega
    have hx := hw l[i] (List.getElem_mem hlt)
    rw [impl_NetsText.l0, if_pos (by omega), if_pos (by omega), if_pos (by omega), nt_rd l i hlt, nt_plain l[i] hx]
    simp only [Option.bind_some]
    by_cases ho : ntOk l[i] = true
    · rw [if_pos ho, impl_NetsText.j1]
      by_cases hl : l.length ≤ 20
      · rw [if_neg (by simp; omega)]
        have hb := ho
        simp only [ntOk, decide_eq_true_eq] at hb
        have s0 := decB_size l[i].f0 (by omega) (by omega)
        have s1 := decB_size l[i].f1 (by omega) (by omega)
        have s2 := decB_size l[i].f2 (by omega) (by omega)
        have s3 := decB_size l[i].f3 (by omega) (by omega)
        have q0 : impl_decimal_int8.f l[i].f0 = some (decB l[i].f0) := by unfold impl_decimal_int8.f; rw [if_pos (by omega)]
        have q1 : impl_decimal_int8.f l[i].f1 = some (decB l[i].f1) := by unfold impl_decimal_int8.f; rw [if_pos (by omega)]
        have q2 : impl_decimal_int8.f l[i].f2 = some (decB l[i].f2) := by unfold impl_decimal_int8.f; rw [if_pos (by omega)]
        have q3 : impl_decimal_int8.f l[i].f3 = some (decB l[i].f3) := by unfold impl_decimal_int8.f; rw [if_pos (by omega)]
        rw [q0]
        simp only [Option.bind_some]
        rw [if_pos (by (try simp only [ByteArray.size_append, Pz.sz1]); omega), q1]
        simp only [Option.bind_some]
        rw [if_pos (by (try simp only [ByteArray.size_append, Pz.sz1]); omega), if_pos (by (try simp only [ByteArray.size_append, Pz.sz1]); omega), q2]
        simp only [Option.bind_some]
        rw [if_pos (by (try simp only [ByteArray.size_append, Pz.sz1]); omega), if_pos (by (try simp only [ByteArray.size_append, Pz.sz1]); omega), q3]
        simp only [Option.bind_some]
        rw [if_pos (by (try simp only [ByteArray.size_append, Pz.sz1]); omega), if_pos (by rw [List.length_map, List.length_take, Nat.min_eq_left h1]; omega), wrap_next i l.length hlt (by omega)]
        have := ih k (i + 1) (by omega) (by omega) (by omega) (by
          intro x h
          rw [List.take_succ_eq_append_getElem hlt] at h
          rcases List.mem_append.1 h with h | h
          · exact hok x h
          · rw [List.mem_singleton.1 h]; exact ho) (fun _ => hl)
        rw [map_take_succ _ _ _ hlt] at this
        exact this
      · rw [if_pos (by simp; omega), nt_long l (by omega)]
    · rw [if_neg ho, impl_NetsText.j1, if_pos rfl, nt_bad l (List.getElem_mem hlt) (by simpa using ho)]

theorem nt_specPlain (l : List S81) (hn : l.length ≤ 1048576) (hw : ∀ x ∈ l, ntWf x) (d : Nat) : ∀ (k i : Nat), i ≤ l.length → l.length - i = d → d < k → (∀ x ∈ l.take i, ntOk x = true) →
    spec_l04Plain.l0 k l i = some (l.all ntOk && decide (l.length ≤ 20)) := by
  induction d with
  | zero =>
    intro k i h1 h2 h3 hok
    obtain ⟨k, rfl⟩ : ∃ m, k = m + 1 := ⟨k - 1, by omega⟩
    obtain rfl : i = l.length := by omega
    rw [List.take_length] at hok
    simp only [spec_l04Plain.l0]
    rw [if_neg (by omega)]
    have : l.all ntOk = true := by simpa using hok
    rw [this, Bool.true_and]
    congr 1
    by_cases h : l.length ≤ 20
    · rw [decide_eq_true h, decide_eq_true (by omega)]
    · rw [decide_eq_false h, decide_eq_false (by omega)]
  | succ d ih =>
    intro k i h1 h2 h3 hok
    obtain ⟨k, rfl⟩ : ∃ m, k = m + 1 := ⟨k - 1, by omega⟩
    have hlt : i < l.length := by omega
    have hx := hw l[i] (List.getElem_mem hlt)
    simp only [ntWf] at hx
    have e0 : wrap64 l[i].f0 = l[i].f0 := by unfold wrap64; omega
    have e1 : wrap64 l[i].f1 = l[i].f1 := by unfold wrap64; omega
    have e2 : wrap64 l[i].f2 = l[i].f2 := by unfold wrap64; omega
    have e3 : wrap64 l[i].f3 = l[i].f3 := by unfold wrap64; omega
    simp only [spec_l04Plain.l0]
    rw [if_pos (by omega), if_pos (by omega), nt_rd l i hlt, e0, e1, e2, e3]
    have bad : ntOk l[i] = false → some false = some (l.all ntOk && decide (l.length ≤ 20)) := by
      intro h
      have : l.all ntOk = false := by
        rw [List.all_eq_false]
        exact ⟨l[i], List.getElem_mem hlt, by simp [h]⟩
      rw [this]; rfl
    have good : ntOk l[i] = true → spec_l04Plain.l0 k l (wrap64 ((i : Int) + 1)) = some (l.all ntOk && decide (l.length ≤ 20)) := by
      intro ho
      rw [wrap_next i l.length hlt (by omega)]
      refine ih k (i + 1) (by omega) (by omega) (by omega) ?_
      intro x h
      rw [List.take_succ_eq_append_getElem hlt] at h
      rcases List.mem_append.1 h with h | h
      · exact hok x h
      · rw [List.mem_singleton.1 h]; exact ho
    simp only [spec_l00In.f]
    by_cases ho : ntOk l[i] = true
    · have hb := ho
      simp only [ntOk, decide_eq_true_eq] at hb
      rw [if_pos (by omega), decide_eq_true (by omega), Option.bind_some, if_pos rfl, if_pos (by omega), decide_eq_true (by omega), Option.bind_some, if_pos rfl, if_pos (by omega), decide_eq_true (by omega), Option.bind_some, if_pos rfl, if_pos (by omega), decide_eq_true (by omega), Option.bind_some, if_pos rfl]
      exact good ho
    · rw [← bad (by simpa using ho)]
      simp only [ntOk, decide_eq_true_eq] at ho
      by_cases a0 : l[i].f0 ≥ 0
      · rw [if_pos a0, Option.bind_some]
        by_cases b0 : l[i].f0 ≤ 9
        · rw [decide_eq_true b0, if_pos rfl]
          by_cases a1 : l[i].f1 ≥ 0
          · rw [if_pos a1, Option.bind_some]
            by_cases b1 : l[i].f1 ≤ 9
            · rw [decide_eq_true b1, if_pos rfl]
              by_cases a2 : l[i].f2 ≥ 1
              · rw [if_pos a2, Option.bind_some]
                by_cases b2 : l[i].f2 ≤ 10
                · rw [decide_eq_true b2, if_pos rfl]
                  by_cases a3 : l[i].f3 ≥ 1
                  · rw [if_pos a3, Option.bind_some, decide_eq_false (by omega), if_neg (by decide)]
                  · rw [if_neg a3, Option.bind_some, if_neg (by decide)]
                · rw [decide_eq_false b2, if_neg (by decide)]
              · rw [if_neg a2, Option.bind_some, if_neg (by decide)]
            · rw [decide_eq_false b1, if_neg (by decide)]
          · rw [if_neg a1, Option.bind_some, if_neg (by decide)]
        · rw [decide_eq_false b0, if_neg (by decide)]
      · rw [if_neg a0, Option.bind_some, if_neg (by decide)]
theorem nt_specF (l : List S81) (hn : l.length ≤ 1048576) (hw : ∀ x ∈ l, ntWf x) (k : Nat) (hk : l.length + 101 < k) : spec_NetsText.f k l = some (ntText l) := by
  unfold spec_NetsText.f spec_l04Plain.f
  rw [show ((0 : Int)) = ((0 : Nat) : Int) from rfl, nt_specPlain l hn hw l.length k 0 (by omega) (by omega) (by omega) (by simp)]
  rw [Option.bind_some]
  unfold ntText
  by_cases h : (l.all ntOk && decide (l.length ≤ 20)) = true
  · rw [if_pos h, if_pos h]
    simp only [Bool.and_eq_true, List.all_eq_true, decide_eq_true_eq] at h
    have := nt_specText l h.2 h.1 l.length k 0 (by omega) (by omega) (by omega)
    rw [List.take_zero, List.map_nil, joinB_nil] at this
    unfold spec_l04Text.f
    rw [show ((0 : Int)) = ((0 : Nat) : Int) from rfl, this]
    rfl
  · rw [if_neg h, if_neg h]

theorem nt_law (l : List S83) (hw : ∀ x ∈ l, ntWf0 x) (hL : l.length ≤ 9223372036854775807) : ∃ k, laws_FnExactNetsText.f k l = some true := by
  by_cases hbig : 1048576 < l.length
  · by_cases hwr : wrap64 (1048576 - (l.length : Int)) < 0
    · refine ⟨0, ?_⟩
      unfold laws_FnExactNetsText.f laws_szNetS.f
      rw [if_pos hwr, Option.bind_some, if_pos (by omega)]
    · exfalso
      apply hwr
      have e : wrap64 (1048576 - (l.length : Int)) = 1048576 - (l.length : Int) := by unfold wrap64; omega
      rw [e]
      omega
  · refine ⟨2 * l.length + 200, ?_⟩
    unfold laws_FnExactNetsText.f laws_szNetS.f
    have e : wrap64 (1048576 - (l.length : Int)) = 1048576 - (l.length : Int) := by unfold wrap64; omega
    have hw' : ∀ x ∈ l.map ntCv, ntWf x := by
      intro x hx
      obtain ⟨y, hy, rfl⟩ := List.mem_map.1 hx
      exact hw y hy
    rw [e, if_neg (by omega), Option.bind_some, if_neg (by omega), nt_toF l (by omega) _ (by omega)]
    simp only [Option.bind_some]
    rw [nt_specF _ (by rw [List.length_map]; omega) hw' _ (by rw [List.length_map]; omega)]
    simp only [Option.bind_some]
    have hi := nt_impl (l.map ntCv) (by rw [List.length_map]; omega) hw' (l.map ntCv).length (2 * l.length + 200) 0 (by omega) (by omega) (by rw [List.length_map]; omega) (by simp) (by omega)
    rw [List.take_zero, List.map_nil] at hi
    have hi' : impl_NetsText.f (2 * l.length + 200) (l.map ntCv) = some (ntText (l.map ntCv)) := hi
    rw [hi']
    simp only [Option.bind_some]
    rw [if_pos trivial, nt_eqF _ (by rw [List.length_map]; omega) _ (by rw [List.length_map]; omega)]
    rfl

end Go.Proofs.YtcifgakahpnjiaaDoor.TnP
