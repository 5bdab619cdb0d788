/- Plain lemmas: what the printed functions of the flocks' text answer. -/
import Derived.Test.YtcifgakahpnjiaaDoorFlD
namespace Go.Proofs.YtcifgakahpnjiaaDoor.TfP
open Go.RowKit Go.Proofs.YtcifgakahpnjiaaDoorW.PrintWords Go.Proofs.YtcifgakahpnjiaaDoorW.PrintLast Go.Proofs.YtcifgakahpnjiaaDoorW.PrintMore Go.Proofs.YtcifgakahpnjiaaDoor Go.Proofs.YtcifgakahpnjiaaDoor.Tf
set_option linter.unusedSimpArgs false
set_option linter.unusedVariables false

theorem getD_lt {α : Type} (l : List α) (d : α) {k : Nat} (h : k < l.length) : l.getD k d = l[k] := by
  simp [List.getD, List.getElem?_eq_getElem h]
theorem wrap_next (i n : Nat) (h : i < n) (hn : n ≤ 9223372036854775807) : wrap64 ((i : Int) + 1) = ((i + 1 : Nat) : Int) := by unfold wrap64; omega
theorem dec_one (n : Int) (h0 : 0 ≤ n) (h1 : n < 9223372036854775807) : strOfNums [(wrap64 (48 + Int.tmod n 10)) % 256] = ⟨#[UInt8.ofNat (48 + n.toNat % 10)]⟩ := by
  obtain ⟨u, rfl⟩ := Int.eq_ofNat_of_zero_le h0
  have e1 : Int.tmod (u : Int) 10 = ((u % 10 : Nat) : Int) := by
    rw [Int.tmod_eq_emod_of_nonneg (by omega)]; omega
  rw [e1]
  have e2 : (wrap64 (48 + ((u % 10 : Nat) : Int))) % 256 = ((48 + u % 10 : Nat) : Int) := by unfold wrap64; omega
  rw [e2]
  show (⟨([((48 + u % 10 : Nat) : Int)].map fun n => UInt8.ofNat n.toNat).toArray⟩ : ByteArray) = _
  simp only [List.map_cons, List.map_nil, Int.toNat_natCast]

theorem decimal_is : ∀ (k : Nat) (n : Int), 0 ≤ n → n < 1000000 → n < 10 ^ (k + 1) → spec_Decimal.f (k + 1) n = some (decB n) := by
  intro k
  induction k with
  | zero =>
    intro n h0 _ h1
    simp only [spec_Decimal.f]
    rw [if_pos (by omega), dec_one n h0 (by omega)]
    unfold decB Lib.itoa
    rw [if_neg (by omega), Lib.decDigits, dif_pos (by omega)]
    congr 5
    omega
  | succ k ih =>
    intro n h0 hm h1
    rw [spec_Decimal.f]
    by_cases hn : n < 10
    · rw [if_pos hn, dec_one n h0 (by omega)]
      unfold decB Lib.itoa
      rw [if_neg (by omega), Lib.decDigits, dif_pos (by omega)]
      congr 5
      omega
    · rw [if_neg hn]
      have e : wrap64 (Int.tdiv n 10) = n / 10 := by
        rw [Int.tdiv_eq_ediv_of_nonneg h0]
        unfold wrap64
        omega
      have h10 : n / 10 < 10 ^ (k + 1) := by
        have : (10 : Int) ^ (k + 1 + 1) = 10 ^ (k + 1) * 10 := by rw [Int.pow_succ]
        omega
      rw [e, ih (n / 10) (by omega) (by omega) h10]
      simp only [Option.bind_some]
      rw [dec_one n h0 (by omega)]
      have hs := decB_size (n / 10) (by omega) (by omega)
      rw [if_pos (by rw [Pz.sz1]; omega)]
      congr 1
      unfold decB Lib.itoa
      have e3 : Lib.decDigits n.toNat = Lib.decDigits (n.toNat / 10) ++ [UInt8.ofNat (48 + n.toNat % 10)] := by
        rw [Lib.decDigits, dif_neg (by omega)]
      have e4 : (n / 10).toNat = n.toNat / 10 := by omega
      rw [if_neg (by omega), if_neg (by omega), e3, e4]
      apply ByteArray.ext
      rw [ByteArray.data_append]
      simp only [List.append_toArray]
theorem decimal_ok (k : Nat) (hk : 6 ≤ k) (n : Int) (h0 : 0 ≤ n) (h1 : n < 1000000) : spec_Decimal.f k n = some (decB n) := by
  obtain ⟨m, rfl⟩ : ∃ m, k = m + 1 := ⟨k - 1, by omega⟩
  refine decimal_is m n h0 h1 ?_
  have : (10 : Int) ^ 6 ≤ 10 ^ (m + 1) := by
    obtain ⟨j, rfl⟩ : ∃ j, m = 5 + j := ⟨m - 5, by omega⟩
    rw [show 5 + j + 1 = 6 + j by omega, Int.pow_add]
    have : (1 : Int) ≤ 10 ^ j := by exact_mod_cast Nat.one_le_pow j 10 (by omega)
    omega
  omega


abbrev sp : ByteArray := ⟨#[32]⟩
theorem joinB_nil (s : ByteArray) : joinB [] s = ⟨#[]⟩ := by simp [joinB, Lib.join]
theorem joinB_one (x s : ByteArray) : joinB [x] s = x := by
  obtain ⟨d⟩ := x
  simp [joinB, Lib.join]
theorem intercalate_snoc (s : List UInt8) (l : List (List UInt8)) (x : List UInt8) (h : l ≠ []) : s.intercalate (l ++ [x]) = s.intercalate l ++ s ++ x := by
  induction l with
  | nil => exact absurd rfl h
  | cons a l ih =>
    cases l with
    | nil => simp [List.intercalate, List.intersperse]
    | cons b l =>
      have := ih (by simp)
      simp only [List.intercalate, List.cons_append, List.intersperse, List.flatten_cons] at this ⊢
      rw [this]
      simp
theorem joinB_snoc (l : List ByteArray) (x s : ByteArray) (h : l ≠ []) : joinB (l ++ [x]) s = (joinB l s ++ s) ++ x := by
  apply ByteArray.ext
  simp only [joinB, Lib.join, List.map_append, List.map_cons, List.map_nil, ByteArray.data_append]
  rw [intercalate_snoc _ _ _ (by simpa using h)]
  apply Array.ext'
  simp
theorem join_size (l : List ByteArray) (c : Nat) (h : ∀ x ∈ l, x.size ≤ c) : (joinB l sp).size ≤ (c + 1) * l.length := by
  suffices ∀ r : List ByteArray, (∀ x ∈ r, x.size ≤ c) → (joinB r.reverse sp).size ≤ (c + 1) * r.length by
    have := this l.reverse (by simpa using h)
    simpa using this
  intro r
  induction r with
  | nil => intro _; simp [joinB_nil, Pz.sz0]
  | cons x r ih =>
    intro h
    have h1 := ih (fun y hy => h y (by simp [hy]))
    have h2 := h x (by simp)
    rw [List.reverse_cons, List.length_cons, Nat.mul_add]
    by_cases hr : r = []
    · subst hr
      simp only [List.reverse_nil, List.nil_append, joinB_one]
      omega
    · rw [joinB_snoc _ _ _ (by simpa using hr), ByteArray.size_append, ByteArray.size_append, Pz.sz1]
      omega
theorem map_take_succ {α : Type} (w : α → ByteArray) (l : List α) (i : Nat) (h : i < l.length) : (l.take (i + 1)).map w = (l.take i).map w ++ [w l[i]] := by
  rw [List.take_succ_eq_append_getElem h, List.map_append]; rfl


theorem empty_app (x : ByteArray) : (⟨#[]⟩ : ByteArray) ++ x = x := by
  apply ByteArray.ext
  simp
theorem flW_is (x : S87) : flW x = ((((((((((decB x.f0 ++ ⟨#[47]⟩) ++ decB x.f1) ++ ⟨#[47]⟩) ++ decB x.f2) ++ ⟨#[47]⟩) ++ decB x.f3) ++ ⟨#[47]⟩) ++ decB x.f4) ++ ⟨#[47]⟩) ++ decB x.f5) := by
  unfold flW
  rw [show flParts x 6 = [decB x.f0] ++ [decB x.f1] ++ [decB x.f2] ++ [decB x.f3] ++ [decB x.f4] ++ [decB x.f5] from rfl]
  rw [jb_snoc _ _ _ (by simp), jb_snoc _ _ _ (by simp), jb_snoc _ _ _ (by simp), jb_snoc _ _ _ (by simp), jb_snoc _ _ _ (by simp), jb_one]
theorem fl_rd (l : List S87) (i : Nat) (h : i < l.length) : rd_T87 l i = l[i] := by
  unfold rd_T87; rw [Int.toNat_natCast, getD_lt _ _ h]
theorem flOk_b {x : S87} (h : flOk x = true) : (0 ≤ x.f0 ∧ x.f0 ≤ 99 ∧ 0 ≤ x.f1 ∧ x.f1 ≤ 200 ∧ 0 ≤ x.f2 ∧ x.f2 ≤ 20 ∧ 0 ≤ x.f3 ∧ x.f3 ≤ 1000 ∧ 0 ≤ x.f4 ∧ x.f4 ≤ 200 ∧ 0 ≤ x.f5 ∧ x.f5 ≤ 2) := by
  simpa [flOk] using h
theorem flOk_wf {x : S87} (h : flOk x = true) : flWf x := by
  have := flOk_b h
  unfold flWf
  omega
theorem fl_specText (l : List S87) (hn : l.length ≤ 12) (hok : ∀ x ∈ l, flOk x = true) (d : Nat) : ∀ (k i : Nat), i ≤ l.length → l.length - i = d → 2 * d + 8 < k →
    spec_l02Text.l0 k l (joinB ((l.take i).map flW) spc) i = some (joinB (l.map flW) spc) := by
  induction d with
  | zero =>
    intro k i h1 h2 h3
    obtain ⟨k, rfl⟩ : ∃ m, k = m + 1 := ⟨k - 1, by omega⟩
    obtain rfl : i = l.length := by omega
    simp only [spec_l02Text.l0]
    rw [if_neg (by omega), List.take_length]
  | succ d ih =>
    intro k i h1 h2 h3
    obtain ⟨k, rfl⟩ : ∃ m, k = m + 1 := ⟨k - 1, by omega⟩
    have hlt : i < l.length := by omega
    have hx := hok l[i] (List.getElem_mem hlt)
    have hb := flOk_b hx
    have hs := jb_size spc rfl ((l.take i).map flW) 132 (by
      intro y hy
      obtain ⟨z, hz, rfl⟩ := List.mem_map.1 hy
      exact flW_size z (flOk_wf (hok z (List.mem_of_mem_take hz))))
    rw [List.length_map, List.length_take, Nat.min_eq_left h1] at hs
    have s0 := decB_size l[i].f0 (by omega) (by omega)
    have e0 : wrap64 l[i].f0 = l[i].f0 := by unfold wrap64; omega
    have s1 := decB_size l[i].f1 (by omega) (by omega)
    have e1 : wrap64 l[i].f1 = l[i].f1 := by unfold wrap64; omega
    have s2 := decB_size l[i].f2 (by omega) (by omega)
    have e2 : wrap64 l[i].f2 = l[i].f2 := by unfold wrap64; omega
    have s3 := decB_size l[i].f3 (by omega) (by omega)
    have e3 : wrap64 l[i].f3 = l[i].f3 := by unfold wrap64; omega
    have s4 := decB_size l[i].f4 (by omega) (by omega)
    have e4 : wrap64 l[i].f4 = l[i].f4 := by unfold wrap64; omega
    have s5 := decB_size l[i].f5 (by omega) (by omega)
    have e5 : wrap64 l[i].f5 = l[i].f5 := by unfold wrap64; omega
    have tail : ∀ (m : Nat) (out : ByteArray), 2 * d + 8 < m → out.size ≤ 10000 → (out ++ flW l[i] = joinB ((l.take (i + 1)).map flW) spc) → spec_l02Text.j1 (m + 1) l out i = some (joinB (l.map flW) spc) := by
      intro m out hm ho heq
      rw [spec_l02Text.j1]
      rw [if_pos (by omega), if_pos (by omega), fl_rd l i hlt]
      rw [e0, decimal_ok m (by omega) _ (by omega) (by omega)]
      simp only [Option.bind_some]
      rw [if_pos (by (try simp only [ByteArray.size_append, Pz.sz1]); omega)]
      rw [e1, decimal_ok m (by omega) _ (by omega) (by omega)]
      simp only [Option.bind_some]
      rw [if_pos (by (try simp only [ByteArray.size_append, Pz.sz1]); omega), if_pos (by (try simp only [ByteArray.size_append, Pz.sz1]); omega)]
      rw [e2, decimal_ok m (by omega) _ (by omega) (by omega)]
      simp only [Option.bind_some]
      rw [if_pos (by (try simp only [ByteArray.size_append, Pz.sz1]); omega), if_pos (by (try simp only [ByteArray.size_append, Pz.sz1]); omega)]
      rw [e3, decimal_ok m (by omega) _ (by omega) (by omega)]
      simp only [Option.bind_some]
      rw [if_pos (by (try simp only [ByteArray.size_append, Pz.sz1]); omega), if_pos (by (try simp only [ByteArray.size_append, Pz.sz1]); omega)]
      rw [e4, decimal_ok m (by omega) _ (by omega) (by omega)]
      simp only [Option.bind_some]
      rw [if_pos (by (try simp only [ByteArray.size_append, Pz.sz1]); omega), if_pos (by (try simp only [ByteArray.size_append, Pz.sz1]); omega)]
      rw [e5, decimal_ok m (by omega) _ (by omega) (by omega)]
      simp only [Option.bind_some]
      rw [if_pos (by (try simp only [ByteArray.size_append, Pz.sz1]); omega), if_pos (by (try simp only [ByteArray.size_append, Pz.sz1]); omega), wrap_next i l.length hlt (by omega)]
      have := ih m (i + 1) (by omega) (by omega) (by omega)
      rw [← heq, flW_is] at this
      simp only [ByteArray.append_assoc] at this ⊢
      exact this
    obtain ⟨k, rfl⟩ : ∃ m, k = m + 1 := ⟨k - 1, by omega⟩
    rw [spec_l02Text.l0]
    rw [if_pos (by omega)]
    by_cases h0 : i = 0
    · subst h0
      rw [if_neg (by omega)]
      exact tail k _ (by omega) (by omega) (by rw [map_take_succ _ _ _ hlt, List.take_zero, List.map_nil, List.nil_append, jb_one, jb_nil, empty_app])
    · have hne : (l.take i).map flW ≠ [] := by
        intro h
        have := congrArg List.length h
        rw [List.length_map, List.length_take, Nat.min_eq_left h1] at this
        exact h0 this
      rw [if_pos (by omega), if_pos (by omega)]
      exact tail k _ (by omega) (by rw [ByteArray.size_append, Pz.sz1]; omega) (by rw [map_take_succ _ _ _ hlt, jb_snoc _ _ _ hne])
theorem fl_specF (l : List S87) (h : flTold l = true) : spec_l02Text.f 100 l = some (flText l) := by
  simp only [flTold, Bool.and_eq_true, List.all_eq_true, decide_eq_true_eq] at h
  have := fl_specText l h.2 h.1 l.length 100 0 (by omega) (by omega) (by omega)
  rw [List.take_zero, List.map_nil, jb_nil] at this
  rw [fl_good l h.1 h.2]
  exact this
theorem fl_untold (l : List S87) (h : flTold l = false) : flText l = ⟨#[]⟩ := by
  unfold flText
  rw [show (l.all flOk && decide (l.length ≤ 12)) = false from h]
  rfl
theorem fl_rd0 (l : List S89) (i : Nat) (h : i < l.length) : rd_T89 l i = l[i] := by
  unfold rd_T89; rw [Int.toNat_natCast, getD_lt _ _ h]
def flCv (x : S89) : S87 := ⟨x.f0, x.f1, x.f2, x.f3, x.f4, x.f5⟩
theorem fl_to (l : List S89) (hn : l.length ≤ 1048576) (d : Nat) : ∀ (k i : Nat) (r : List S87), i ≤ l.length → l.length - i = d → d < k → r.length = l.length → r.take i = (l.take i).map flCv →
    laws_toFlockS.l0 k l r i = some (l.map flCv) := by
  induction d with
  | zero =>
    intro k i r h1 h2 h3 hr ht
    obtain ⟨k, rfl⟩ : ∃ m, k = m + 1 := ⟨k - 1, by omega⟩
    obtain rfl : i = l.length := by omega
    simp only [laws_toFlockS.l0]
    rw [if_neg (by omega)]
    rw [List.take_length, ← hr, List.take_length] at ht
    rw [ht]
  | succ d ih =>
    intro k i r h1 h2 h3 hr ht
    obtain ⟨k, rfl⟩ : ∃ m, k = m + 1 := ⟨k - 1, by omega⟩
    have hlt : i < l.length := by omega
    simp only [laws_toFlockS.l0, laws_toFlock.f]
    rw [if_pos (by omega), if_pos (by omega), fl_rd0 l i hlt]
    simp only [Option.bind_some]
    rw [if_pos (by omega), wrap_next i l.length hlt (by omega), Int.toNat_natCast]
    refine ih k (i + 1) _ (by omega) (by omega) (by omega) (by simpa using hr) ?_
    rw [List.take_succ_eq_append_getElem (by simp; omega), List.take_succ_eq_append_getElem hlt, List.map_append, ← ht]
    simp only [List.getElem_set_self, List.take_set, List.map_cons, List.map_nil, flCv]
    rw [List.set_eq_of_length_le (by simp; omega)]
theorem fl_toF (l : List S89) (hn : l.length ≤ 1048576) (k : Nat) (hk : l.length < k) : laws_toFlockS.f k l = some (l.map flCv) := by
  unfold laws_toFlockS.f
  rw [if_pos (by omega), if_pos (by simp; omega)]
  exact fl_to l hn l.length _ 0 _ (by omega) (by omega) (by omega) (by simp) (by simp)
theorem fl_eq (l : List S87) (hn : l.length ≤ 1048576) (d : Nat) : ∀ (k i : Nat), i ≤ l.length → l.length - i = d → d < k → laws_eqFlockS.l0 k l l i = some true := by
  induction d with
  | zero =>
    intro k i h1 h2 h3
    obtain ⟨k, rfl⟩ : ∃ m, k = m + 1 := ⟨k - 1, by omega⟩
    simp only [laws_eqFlockS.l0]
    rw [if_neg (by omega)]
  | succ d ih =>
    intro k i h1 h2 h3
    obtain ⟨k, rfl⟩ : ∃ m, k = m + 1 := ⟨k - 1, by omega⟩
    have hlt : i < l.length := by omega
    simp only [laws_eqFlockS.l0, laws_eqFlock.f]
    rw [if_pos (by omega), if_pos (by omega), if_pos (by omega)]
    simp only [if_true, Option.bind_some]
    rw [wrap_next i l.length hlt (by omega)]
    exact ih k (i + 1) (by omega) (by omega) (by omega)
theorem fl_eqF (l : List S87) (hn : l.length ≤ 1048576) (k : Nat) (hk : l.length < k) : laws_eqFlockS.f k l l = some true := by
  unfold laws_eqFlockS.f
  rw [if_pos rfl]
  exact fl_eq l hn l.length _ 0 (by omega) (by omega) (by omega)


end Go.Proofs.YtcifgakahpnjiaaDoor.TfP
