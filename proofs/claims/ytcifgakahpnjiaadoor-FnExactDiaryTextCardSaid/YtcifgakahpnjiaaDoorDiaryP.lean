/- Plain lemmas: what the printed functions of the diary's texts answer. -/
import Derived.Test.YtcifgakahpnjiaaDoorDiary
namespace Go.Proofs.YtcifgakahpnjiaaDoor
open Go.RowKit Go.Proofs.YtcifgakahpnjiaaDoorW.PrintWords Go.Proofs.YtcifgakahpnjiaaDoorW.PrintLast Go.Proofs.YtcifgakahpnjiaaDoorW.PrintMore Go.Proofs.YtcifgakahpnjiaaDoor.Da
set_option linter.unusedSimpArgs false
set_option linter.unusedVariables false

theorem dec_one (n : Int) (h0 : 0 ≤ n) (h1 : n < 9223372036854775807) : strOfNums [(wrap64 (48 + Int.tmod n 10)) % 256] = ⟨#[UInt8.ofNat (48 + n.toNat % 10)]⟩ := by
  obtain ⟨u, rfl⟩ := Int.eq_ofNat_of_zero_le h0
  have e1 : Int.tmod (u : Int) 10 = ((u % 10 : Nat) : Int) := by
    rw [Int.tmod_eq_emod_of_nonneg (by omega)]; omega
  rw [e1]
  have e2 : (wrap64 (48 + ((u % 10 : Nat) : Int))) % 256 = ((48 + u % 10 : Nat) : Int) := by unfold wrap64; omega
  rw [e2]
  show (⟨([((48 + u % 10 : Nat) : Int)].map fun n => UInt8.ofNat n.toNat).toArray⟩ : ByteArray) = _
  simp only [List.map_cons, List.map_nil, Int.toNat_natCast]

theorem decimal_is : ∀ (k : Nat) (n : Int), 0 ≤ n → n < 1000000 → n < 10 ^ (k + 1) → spec_Decimal.f (k + 1) n = some (decB n) := by
  intro k
  induction k with
  | zero =>
    intro n h0 _ h1
    simp only [spec_Decimal.f]
    rw [if_pos (by omega), dec_one n h0 (by omega)]
    unfold decB Lib.itoa
    rw [if_neg (by omega), Lib.decDigits, dif_pos (by omega)]
    congr 5
    omega
  | succ k ih =>
    intro n h0 hm h1
    rw [spec_Decimal.f]
    by_cases hn : n < 10
    · rw [if_pos hn, dec_one n h0 (by omega)]
      unfold decB Lib.itoa
      rw [if_neg (by omega), Lib.decDigits, dif_pos (by omega)]
      congr 5
      omega
    · rw [if_neg hn]
      have e : wrap64 (Int.tdiv n 10) = n / 10 := by
        rw [Int.tdiv_eq_ediv_of_nonneg h0]
        unfold wrap64
        omega
      have h10 : n / 10 < 10 ^ (k + 1) := by
        have : (10 : Int) ^ (k + 1 + 1) = 10 ^ (k + 1) * 10 := by rw [Int.pow_succ]
        omega
      rw [e, ih (n / 10) (by omega) (by omega) h10]
      simp only [Option.bind_some]
      rw [dec_one n h0 (by omega)]
      have hs := decB_size (n / 10) (by omega) (by omega)
      rw [if_pos (by rw [Pz.sz1]; omega)]
      congr 1
      unfold decB Lib.itoa
      have e3 : Lib.decDigits n.toNat = Lib.decDigits (n.toNat / 10) ++ [UInt8.ofNat (48 + n.toNat % 10)] := by
        rw [Lib.decDigits, dif_neg (by omega)]
      have e4 : (n / 10).toNat = n.toNat / 10 := by omega
      rw [if_neg (by omega), if_neg (by omega), e3, e4]
      apply ByteArray.ext
      rw [ByteArray.data_append]
      simp only [List.append_toArray]
theorem decimal_ok (k : Nat) (hk : 6 ≤ k) (n : Int) (h0 : 0 ≤ n) (h1 : n < 1000000) : spec_Decimal.f k n = some (decB n) := by
  obtain ⟨m, rfl⟩ : ∃ m, k = m + 1 := ⟨k - 1, by omega⟩
  refine decimal_is m n h0 h1 ?_
  have : (10 : Int) ^ 6 ≤ 10 ^ (m + 1) := by
    obtain ⟨j, rfl⟩ : ∃ j, m = 5 + j := ⟨m - 5, by omega⟩
    rw [show 5 + j + 1 = 6 + j by omega, Int.pow_add]
    have : (1 : Int) ≤ 10 ^ j := by exact_mod_cast Nat.one_le_pow j 10 (by omega)
    omega
  omega

theorem entry_is (x : S54) (h0 : -128 ≤ x.f0 ∧ x.f0 ≤ 127) (h1 : -32768 ≤ x.f1 ∧ x.f1 ≤ 32767) (h2 : -32768 ≤ x.f2 ∧ x.f2 ≤ 32767) : spec_l07Entry.f x.f0 x.f1 x.f2 = some (okE x) := by
  have e0 : wrap64 x.f0 = x.f0 := by unfold wrap64; omega
  have e1 : wrap64 x.f1 = x.f1 := by unfold wrap64; omega
  have e2 : wrap64 x.f2 = x.f2 := by unfold wrap64; omega
  simp only [spec_l07Entry.f, spec_l00In.f, e0, e1, e2, okE]
  by_cases a : x.f0 ≥ 0 <;> by_cases b : x.f0 ≤ 3 <;> by_cases c : x.f1 ≥ 0 <;> by_cases d : x.f1 ≤ 99 <;> by_cases e : x.f2 ≥ 1 <;> by_cases f : x.f2 ≤ 1000 <;> simp [a, b, c, d, e, f] <;> omega

abbrev W3 (x : S54) : Prop := (-128 ≤ x.f0 ∧ x.f0 ≤ 127) ∧ (-32768 ≤ x.f1 ∧ x.f1 ≤ 32767) ∧ (-32768 ≤ x.f2 ∧ x.f2 ≤ 32767)

theorem rd_at (l : List S54) (i : Nat) (h : i < l.length) : rd_T54 l i = l[i] := by
  unfold rd_T54; rw [Int.toNat_natCast, getD_lt _ _ h]
theorem wrap_next (i n : Nat) (h : i < n) (hn : n ≤ 9223372036854775807) : wrap64 ((i : Int) + 1) = ((i + 1 : Nat) : Int) := by unfold wrap64; omega

theorem textB_from (l : List S54) (i : Nat) (h : i < l.length) : textB (l.take (i + 1)) = textB (l.take i) ++ lineB l[i] := by
  rw [List.take_succ_eq_append_getElem h, textB_snoc]

theorem l07Text_is (l : List S54) (hn : l.length ≤ 100) (hok : ∀ x ∈ l, okE x = true) (d : Nat) : ∀ (k i : Nat), i ≤ l.length → l.length - i = d → d + 7 < k →
    spec_l07Text.l0 k l (textB (l.take i)) i = some (textB l) := by
  induction d with
  | zero =>
    intro k i h1 h2 h3
    obtain ⟨k, rfl⟩ : ∃ m, k = m + 1 := ⟨k - 1, by omega⟩
    obtain rfl : i = l.length := by omega
    simp only [spec_l07Text.l0]
    rw [if_neg (by omega), List.take_length]
  | succ d ih =>
    intro k i h1 h2 h3
    obtain ⟨k, rfl⟩ : ∃ m, k = m + 1 := ⟨k - 1, by omega⟩
    have hlt : i < l.length := by omega
    have hx := hok l[i] (List.getElem_mem hlt)
    have hb := hx
    simp only [okE, decide_eq_true_eq] at hb
    have hs := text_size (l.take i) (fun x h => hok x (List.mem_of_mem_take h))
    rw [List.length_take, Nat.min_eq_left h1] at hs
    have hl := line_size l[i] hx
    have s0 := wl_size l[i].f0
    have s1 := decB_size l[i].f1 (by omega) (by omega)
    have s2 := decB_size l[i].f2 (by omega) (by omega)
    have hw : spec_l07Word.f (wrap64 l[i].f0) = some (rdOf ByteArray.empty wl l[i].f0) := by
      have e : wrap64 l[i].f0 = l[i].f0 := by unfold wrap64; omega
      rw [e]
      simp only [spec_l07Word.f, Option.bind_some]
      rw [if_pos (by omega), if_pos (by simp; omega)]
      rfl
    have e1 : wrap64 l[i].f1 = l[i].f1 := by unfold wrap64; omega
    have e2 : wrap64 l[i].f2 = l[i].f2 := by unfold wrap64; omega
    simp only [spec_l07Text.l0]
    rw [if_pos (by omega), if_pos (by omega), rd_at l i hlt, hw]
    simp only [Option.bind_some]
    rw [if_pos (by omega), e1, decimal_ok k (by omega) _ (by omega) (by omega)]
    simp only [Option.bind_some]
    rw [if_pos (by simp only [ByteArray.size_append, Pz.sz1]; omega), if_pos (by simp only [ByteArray.size_append, Pz.sz1]; omega), e2, decimal_ok k (by omega) _ (by omega) (by omega)]
    simp only [Option.bind_some]
    rw [if_pos (by simp only [ByteArray.size_append, Pz.sz1]; omega), if_pos (by simp only [ByteArray.size_append, Pz.sz1]; omega), if_pos (by simp only [ByteArray.size_append, Pz.sz1]; omega), wrap_next i l.length hlt (by omega)]
    have := ih k (i + 1) (by omega) (by omega) (by omega)
    rw [textB_from l i hlt] at this
    exact this

theorem specText_is (l : List S54) (hn : l.length ≤ 1048576) (hw : ∀ x ∈ l, W3 x) (d : Nat) : ∀ (k i : Nat), i ≤ l.length → l.length - i = d → d + 110 < k → (∀ x ∈ l.take i, okE x = true) →
    spec_DiaryText.l0 k l i = some (iText l) := by
  induction d with
  | zero =>
    intro k i h1 h2 h3 hok
    obtain ⟨k, rfl⟩ : ∃ m, k = m + 1 := ⟨k - 1, by omega⟩
    obtain rfl : i = l.length := by omega
    rw [List.take_length] at hok
    simp only [spec_DiaryText.l0]
    rw [if_neg (by omega)]
    by_cases hl : l.length ≤ 100
    · rw [if_neg (by omega), iText_good l hok (fun _ => hl)]
      have := l07Text_is l hl hok l.length k 0 (by omega) (by omega) (by omega)
      rw [spec_l07Text.f]
      simp only [List.take_zero] at this
      have e : textB ([] : List S54) = ⟨#[]⟩ := rfl
      rw [e] at this
      rw [show ((0 : Int)) = ((0 : Nat) : Int) from rfl, this]
      rfl
    · rw [if_pos (by omega), iText_long l (by omega)]
  | succ d ih =>
    intro k i h1 h2 h3 hok
    obtain ⟨k, rfl⟩ : ∃ m, k = m + 1 := ⟨k - 1, by omega⟩
    have hlt : i < l.length := by omega
    have hx := hw l[i] (List.getElem_mem hlt)
    simp only [spec_DiaryText.l0]
    rw [if_pos (by omega), if_pos (by omega), rd_at l i hlt, entry_is l[i] hx.1 hx.2.1 hx.2.2]
    simp only [Option.bind_some]
    by_cases ho : okE l[i] = true
    · rw [if_pos ho, wrap_next i l.length hlt (by omega)]
      refine ih k (i + 1) (by omega) (by omega) (by omega) ?_
      intro x h
      rw [List.take_succ_eq_append_getElem hlt] at h
      rcases List.mem_append.1 h with h | h
      · exact hok x h
      · rw [List.mem_singleton.1 h]; exact ho
    · rw [if_neg ho, iText_bad l (List.getElem_mem hlt) (by simpa using ho)]
theorem spec_text (l : List S54) (hn : l.length ≤ 1048576) (hw : ∀ x ∈ l, W3 x) : spec_DiaryText.f (l.length + 200) l = some (iText l) :=
  specText_is l hn hw l.length _ 0 (by omega) (by omega) (by omega) (by simp)

def cv (x : S56) : S54 := ⟨x.f0, x.f1, x.f2⟩
theorem rd_at0 (l : List S56) (i : Nat) (h : i < l.length) : rd_T56 l i = l[i] := by
  unfold rd_T56; rw [Int.toNat_natCast, getD_lt _ _ h]
theorem to_is (l : List S56) (hn : l.length ≤ 1048576) (d : Nat) : ∀ (k i : Nat) (r : List S54), i ≤ l.length → l.length - i = d → d < k → r.length = l.length → r.take i = (l.take i).map cv →
    laws_toEntryS.l0 k l r i = some (l.map cv) := by
  induction d with
  | zero =>
    intro k i r h1 h2 h3 hr ht
    obtain ⟨k, rfl⟩ : ∃ m, k = m + 1 := ⟨k - 1, by omega⟩
    obtain rfl : i = l.length := by omega
    simp only [laws_toEntryS.l0]
    rw [if_neg (by omega)]
    rw [List.take_length, ← hr, List.take_length] at ht
    rw [ht]
  | succ d ih =>
    intro k i r h1 h2 h3 hr ht
    obtain ⟨k, rfl⟩ : ∃ m, k = m + 1 := ⟨k - 1, by omega⟩
    have hlt : i < l.length := by omega
    simp only [laws_toEntryS.l0, laws_toEntry.f]
    rw [if_pos (by omega), if_pos (by omega), rd_at0 l i hlt]
    simp only [Option.bind_some]
    rw [if_pos (by omega), wrap_next i l.length hlt (by omega), Int.toNat_natCast]
    refine ih k (i + 1) _ (by omega) (by omega) (by omega) (by simpa using hr) ?_
    rw [List.take_succ_eq_append_getElem (by simp; omega), List.take_succ_eq_append_getElem hlt, List.map_append, ← ht]
    simp only [List.getElem_set_self, List.take_set, List.map_cons, List.map_nil, cv]
    rw [List.set_eq_of_length_le (by simp; omega)]
theorem to_f (l : List S56) (hn : l.length ≤ 1048576) : laws_toEntryS.f (l.length + 1) l = some (l.map cv) := by
  unfold laws_toEntryS.f
  rw [if_pos (by omega), if_pos (by simp; omega)]
  exact to_is l hn l.length _ 0 _ (by omega) (by omega) (by omega) (by simp) (by simp)
theorem eq_is (l : List S54) (hn : l.length ≤ 1048576) (d : Nat) : ∀ (k i : Nat), i ≤ l.length → l.length - i = d → d < k → laws_eqEntryS.l0 k l l i = some true := by
  induction d with
  | zero =>
    intro k i h1 h2 h3
    obtain ⟨k, rfl⟩ : ∃ m, k = m + 1 := ⟨k - 1, by omega⟩
    simp only [laws_eqEntryS.l0]
    rw [if_neg (by omega)]
  | succ d ih =>
    intro k i h1 h2 h3
    obtain ⟨k, rfl⟩ : ∃ m, k = m + 1 := ⟨k - 1, by omega⟩
    have hlt : i < l.length := by omega
    simp only [laws_eqEntryS.l0, laws_eqEntry.f]
    rw [if_pos (by omega), if_pos (by omega), if_pos (by omega)]
    simp only [if_true, Option.bind_some]
    rw [wrap_next i l.length hlt (by omega)]
    exact ih k (i + 1) (by omega) (by omega) (by omega)
theorem eq_f (l : List S54) (hn : l.length ≤ 1048576) : laws_eqEntryS.f (l.length + 1) l l = some true := by
  unfold laws_eqEntryS.f
  rw [if_pos rfl]
  exact eq_is l hn l.length _ 0 (by omega) (by omega) (by omega)

end Go.Proofs.YtcifgakahpnjiaaDoor
