/- Plain lemmas: a whole diary, read by the program and by the reference: both answer 'rd'. -/
import Derived.Test.YtenfegfoaobehaaDoorRdQ
namespace Go.Proofs.YtenfegfoaobehaaDoor.RdP
open Go.RowKit Go.Proofs.YtenfegfoaobehaaDoorW.PrintWords Go.Proofs.YtenfegfoaobehaaDoorW.PrintLast Go.Proofs.YtenfegfoaobehaaDoorW.PrintMore Go.Proofs.YtenfegfoaobehaaDoor Go.Proofs.YtenfegfoaobehaaDoor.Rd Go.Proofs.YtenfegfoaobehaaDoor.Num Go.Proofs.YtenfegfoaobehaaDoor.Spl
set_option linter.unusedSimpArgs false
set_option linter.unusedVariables false

def entOf (w c a : Nat) : E := ⟨IntKind.i8.wrap (w : Int), IntKind.i16.wrap (c : Int), IntKind.i16.wrap (a : Int)⟩
def lineE (ws : List ByteArray) : Option E := if ws.length = 3 ∧ widx (rdOf ByteArray.empty ws 0) < 4 then
    (numS (rdOf ByteArray.empty ws 1).data.toList).bind fun c => (numS (rdOf ByteArray.empty ws 2).data.toList).bind fun a =>
      if c ≤ 99 ∧ 1 ≤ a ∧ a ≤ 1000 then some (entOf (widx (rdOf ByteArray.empty ws 0)) c a) else none
  else none
theorem word_at : spec_l07Word.f 0 = some w0 ∧ spec_l07Word.f 1 = some w1 ∧ spec_l07Word.f 2 = some w2 ∧ spec_l07Word.f 3 = some w3 := by
  refine ⟨?_, ?_, ?_, ?_⟩ <;> simp [spec_l07Word.f, rdOf]
theorem spec_what (x4 : List ByteArray) (x5 : Int) (x6 : List E) (x7 : Int) (ws : List ByteArray) (hl : 0 < ws.length) (k : Nat) :
    spec_ReadDiary.l1 (k + 6) x4 x5 x6 x7 ws 0 = spec_ReadDiary.j3 (k + 5 - widx (rdOf ByteArray.empty ws 0)) x4 x5 x6 x7 ws (widx (rdOf ByteArray.empty ws 0) : Int) := by
  obtain ⟨q0, q1, q2, q3⟩ := word_at
  have e1 : wrap64 (0 + 1) = 1 := by unfold wrap64; omega
  have e2 : wrap64 (1 + 1) = 2 := by unfold wrap64; omega
  have e3 : wrap64 (2 + 1) = 3 := by unfold wrap64; omega
  have e4 : wrap64 (3 + 1) = 4 := by unfold wrap64; omega
  unfold widx
  rw [spec_ReadDiary.l1, if_pos (by omega), if_pos (by omega), q0, Option.bind_some]
  by_cases h0 : (rdOf ByteArray.empty ws 0).toList = w0.toList
  · rw [if_pos h0, if_pos h0]; rfl
  · rw [if_neg h0, if_neg h0, e1, spec_ReadDiary.l1, if_pos (by omega), if_pos (by omega), q1, Option.bind_some]
    by_cases h1 : (rdOf ByteArray.empty ws 0).toList = w1.toList
    · rw [if_pos h1, if_pos h1]; rfl
    · rw [if_neg h1, if_neg h1, e2, spec_ReadDiary.l1, if_pos (by omega), if_pos (by omega), q2, Option.bind_some]
      by_cases h2 : (rdOf ByteArray.empty ws 0).toList = w2.toList
      · rw [if_pos h2, if_pos h2]; rfl
      · rw [if_neg h2, if_neg h2, e3, spec_ReadDiary.l1, if_pos (by omega), if_pos (by omega), q3, Option.bind_some]
        by_cases h3 : (rdOf ByteArray.empty ws 0).toList = w3.toList
        · rw [if_pos h3, if_pos h3]; rfl
        · rw [if_neg h3, if_neg h3, e4, spec_ReadDiary.l1, if_neg (by omega)]; rfl
theorem spec_line (x4 : List ByteArray) (x5 : Int) (out : List E) (x7 : Int) (ws : List ByteArray) (hl : 0 < ws.length) (ho : out.length ≤ 100) (k : Nat) (hk : 40 ≤ k) :
    spec_ReadDiary.l1 (k + 6) x4 x5 out x7 ws 0 = match lineE ws with
      | some e => spec_ReadDiary.l0 (k + 3 - widx (rdOf ByteArray.empty ws 0)) x4 x5 (out ++ [e]) (wrap64 (x7 + 1))
      | none => some ([], 5) := by
  have hw := widx_le (rdOf ByteArray.empty ws 0)
  rw [spec_what x4 x5 out x7 ws hl k]
  obtain ⟨m, hm⟩ : ∃ m, k + 5 - widx (rdOf ByteArray.empty ws 0) = m + 2 := ⟨k + 3 - widx (rdOf ByteArray.empty ws 0), by omega⟩
  have hm' : k + 3 - widx (rdOf ByteArray.empty ws 0) = m := by omega
  rw [hm, hm', spec_ReadDiary.j3]
  unfold lineE
  by_cases h3 : ws.length = 3
  · rw [if_pos (by omega)]
    by_cases hx : widx (rdOf ByteArray.empty ws 0) < 4
    · rw [decide_eq_false (by omega), if_pos ⟨h3, hx⟩, spec_ReadDiary.j4, if_neg (by simp), if_pos (by omega), num_f _ m (by omega), Option.bind_some, if_pos (by omega), num_f _ m (by omega), Option.bind_some]
      cases numS (rdOf ByteArray.empty ws 1).data.toList with
      | none => simp [numR]
      | some c =>
        cases numS (rdOf ByteArray.empty ws 2).data.toList with
        | none => simp [numR]
        | some a =>
          rw [Option.bind_some, Option.bind_some, if_pos (show (numR (some c)).2 = true from rfl), if_pos (show (numR (some a)).2 = true from rfl)]
          change (if (c : Int) > 99 then some (([] : List E), (5 : Int)) else (spec_l00In.f (a : Int) 1 1000).bind _) = _
          by_cases hc : c ≤ 99
          · rw [if_neg (by omega)]
            unfold spec_l00In.f
            by_cases ha : 1 ≤ a
            · rw [if_pos (by omega), Option.bind_some]
              by_cases ha2 : a ≤ 1000
              · rw [decide_eq_true (by omega), if_pos rfl, if_pos (by omega), if_pos ⟨hc, ha, ha2⟩]
                rfl
              · rw [decide_eq_false (by omega), if_neg (by simp), if_neg (fun h => ha2 h.2.2)]
            · rw [if_neg (by omega), Option.bind_some, if_neg (by simp), if_neg (fun h => ha h.2.1)]
          · rw [if_pos (by omega), if_neg (fun h => hc h.1)]
    · rw [decide_eq_true (by omega), if_neg (fun h => hx h.2), spec_ReadDiary.j4, if_pos rfl]
  · rw [if_neg (by omega), if_neg (fun h => h3 h.1), spec_ReadDiary.j4, if_pos rfl]
theorem impl_line (out : List E) (rest : ByteArray) (ws : List ByteArray) (h3 : ws.length = 3) (hs : ∀ i, (rdOf ByteArray.empty ws i).size ≤ 1048576) (ho : out.length ≤ 100) (k : Nat) (hk : 40 ≤ k) :
    impl_ReadDiary.j1 (k + 1) out rest ws false = match lineE ws with
      | some e => impl_ReadDiary.l0 k rest (out ++ [e])
      | none => some ([], 5) := by
  rw [impl_ReadDiary.j1, if_neg (by simp)]
  unfold impl_whats.f
  rw [Option.bind_some, if_pos (by omega), index_is _ k (by omega), Option.bind_some, if_pos (by omega)]
  obtain ⟨v1, b1, p1, t1, f1⟩ := parse_is (rdOf ByteArray.empty ws 1) 0 99 (hs 1)
  obtain ⟨v2, b2, p2, t2, f2⟩ := parse_is (rdOf ByteArray.empty ws 2) 1 1000 (hs 2)
  rw [p1, Option.bind_some, if_pos (by omega), p2, Option.bind_some]
  rw [num_agree 0 99 (by omega) (by omega)] at t1 f1
  rw [num_agree 1 1000 (by omega) (by omega)] at t2 f2
  by_cases hx : widx (rdOf ByteArray.empty ws 0) < 4
  · have hE : lineE ws = (numS (rdOf ByteArray.empty ws 1).data.toList).bind fun c => (numS (rdOf ByteArray.empty ws 2).data.toList).bind fun a =>
      if c ≤ 99 ∧ 1 ≤ a ∧ a ≤ 1000 then some (entOf (widx (rdOf ByteArray.empty ws 0)) c a) else none := if_pos ⟨h3, hx⟩
    rw [hE, if_pos hx, if_neg (show ¬ ((widx (rdOf ByteArray.empty ws 0) : Int) < 0) by omega)]
    simp only
    cases b1 with
    | false =>
      rw [if_neg (by simp)]
      have := f1 rfl
      cases hn : numS (rdOf ByteArray.empty ws 1).data.toList with
      | none => rfl
      | some c =>
        rw [hn, Option.bind_some] at this
        split at this
        · cases this
        · rename_i hc
          rw [Option.bind_some]
          cases numS (rdOf ByteArray.empty ws 2).data.toList with
          | none => rfl
          | some a =>
            rw [Option.bind_some, if_neg (by omega)]
    | true =>
      rw [if_pos rfl]
      have h1 := t1 rfl
      cases hn : numS (rdOf ByteArray.empty ws 1).data.toList with
      | none => rw [hn] at h1; cases h1
      | some c =>
        rw [hn, Option.bind_some] at h1
        split at h1
        case isFalse => cases h1
        rename_i hc
        obtain rfl := Option.some.inj h1
        rw [Option.bind_some]
        cases b2 with
        | false =>
          rw [if_neg (by simp)]
          have := f2 rfl
          cases hn2 : numS (rdOf ByteArray.empty ws 2).data.toList with
          | none => rfl
          | some a =>
            rw [hn2, Option.bind_some] at this
            split at this
            · cases this
            · rename_i ha
              rw [Option.bind_some, if_neg (by omega)]
        | true =>
          rw [if_pos rfl]
          have h2 := t2 rfl
          cases hn2 : numS (rdOf ByteArray.empty ws 2).data.toList with
          | none => rw [hn2] at h2; cases h2
          | some a =>
            rw [hn2, Option.bind_some] at h2
            split at h2
            case isFalse => cases h2
            rename_i ha
            obtain rfl := Option.some.inj h2
            rw [Option.bind_some, if_pos (by omega), if_pos (by omega)]
            rfl
  · have hE : lineE ws = none := if_neg (fun h => hx h.2)
    rw [hE, if_neg hx, if_pos (show (-1 : Int) < 0 by omega)]

def rd : List E → List (List UInt8) → List E × Int
  | _, [] => ([], 5)
  | out, [l] => if l = [] then (out, 0) else ([], 5)
  | out, l :: m :: r => if out.length = 100 then ([], 5) else match lineE (pieces 32 l) with
    | some e => rd (out ++ [e]) (m :: r)
    | none => ([], 5)
theorem rd_cons (out : List E) (l : List UInt8) (r : List (List UInt8)) (h : r ≠ []) : rd out (l :: r) = if out.length = 100 then ([], 5) else match lineE (pieces 32 l) with
    | some e => rd (out ++ [e]) r
    | none => ([], 5) := by
  cases r with
  | nil => exact absurd rfl h
  | cons m r => rfl
theorem rd_bad : ∀ (LL : List (List UInt8)) (out : List E) (h : LL ≠ []), out.length ≤ 100 → (LL.getLast h ≠ [] ∨ 100 < out.length + (LL.length - 1)) → rd out LL = ([], 5)
  | [], _, h, _, _ => absurd rfl h
  | [l], out, h, ho, hb => by
    rcases hb with hb | hb
    · simp only [List.getLast_singleton] at hb
      simp [rd, hb]
    · simp at hb; omega
  | l :: m :: r, out, h, ho, hb => by
    rw [rd]
    split
    · rfl
    · rename_i h100
      split
      · refine rd_bad (m :: r) _ (by simp) (by simp; omega) ?_
        rcases hb with hb | hb
        · left; simpa using hb
        · right; simp at hb ⊢; omega
      · rfl
theorem rd_len : ∀ (LL : List (List UInt8)) (out : List E), out.length ≤ 100 → (rd out LL).1.length ≤ 100
  | [], _, _ => by simp [rd]
  | [l], out, ho => by
    rw [rd]
    split
    · exact ho
    · simp
  | l :: m :: r, out, ho => by
    rw [rd]
    split
    · simp
    · split
      · exact rd_len (m :: r) _ (by simp; omega)
      · simp
theorem spl_len (c : UInt8) : ∀ (l p : List UInt8), p ∈ spl c l → p.length ≤ l.length
  | [], p, h => by simp [spl] at h; simp [h]
  | b :: r, p, h => by
    unfold spl at h
    split at h
    · rcases List.mem_cons.1 h with h | h
      · simp [h]
      · have := spl_len c r p h
        simp; omega
    · cases hs : spl c r with
      | nil => rw [hs] at h; simp at h; simp [h]
      | cons q qs =>
        rw [hs] at h
        rcases List.mem_cons.1 h with h | h
        · have := spl_len c r q (by rw [hs]; simp)
          subst h
          simp; omega
        · have := spl_len c r p (by rw [hs]; simp [h])
          simp; omega
theorem pieces_size (c : UInt8) (l : List UInt8) (i : Int) : (rdOf ByteArray.empty (pieces c l) i).size ≤ l.length := by
  unfold rdOf
  rcases Nat.lt_or_ge i.toNat (pieces c l).length with h | h
  · rw [getD_lt _ _ h]
    have hm := List.getElem_mem h
    obtain ⟨p, hp, e⟩ := List.mem_map.1 hm
    rw [← e, Lib.size_eq, data_mkB]
    exact spl_len c l p hp
  · rw [List.getD_eq_getElem?_getD, List.getElem?_eq_none h]
    simp
theorem impl_main (n : Nat) : ∀ (x0 : ByteArray) (out : List E) (k : Nat), x0.size ≤ n → n ≤ 1048576 → out.length ≤ 100 → 2 * n + 100 ≤ k →
    impl_ReadDiary.l0 k x0 out = some (rd out (spl 10 x0.data.toList)) := by
  induction n with
  | zero =>
    intro x0 out k h1 h2 h3 h4
    obtain ⟨k, rfl⟩ : ∃ m, k = m + 1 := ⟨k - 1, by omega⟩
    have hd : x0.data.toList = [] := List.eq_nil_of_length_eq_zero (by rw [← Lib.size_eq]; omega)
    rw [impl_ReadDiary.l0, if_pos ((toList_nil _).2 hd), hd]
    rfl
  | succ n ih =>
    intro x0 out k h1 h2 h3 h4
    obtain ⟨k, rfl⟩ : ∃ m, k = m + 2 := ⟨k - 2, by omega⟩
    have hsz := size_len x0
    rw [impl_ReadDiary.l0]
    by_cases hd : x0.data.toList = []
    · rw [if_pos ((toList_nil _).2 hd), hd]
      rfl
    · rw [if_neg (fun h => hd ((toList_nil _).1 h))]
      unfold strings_Cut.f
      rw [if_pos (by omega), Option.bind_some]
      simp only
      have bad : ∀ r ws, impl_ReadDiary.j1 (k + 1) out r ws true = some ([], 5) := fun r ws => by rw [impl_ReadDiary.j1, if_pos rfl]
      cases hc : (Lib.cut x0.data.toList [10]).2.2 with
      | true =>
        obtain ⟨hs, he⟩ := cut_hit 10 _ hc
        have hlen := congrArg List.length he
        simp only [List.length_append, List.length_cons] at hlen
        have hsplit : strings_Split.f (⟨(Lib.cut x0.data.toList [10]).1.toArray⟩ : ByteArray) ⟨#[32]⟩ = some (pieces 32 (Lib.cut x0.data.toList [10]).1) := by
          unfold strings_Split.f
          rw [splitB_pieces]
          rw [if_pos ⟨by rw [Lib.size_eq]; simp; omega, by rw [Pz.sz1]; omega⟩]
        rw [hsplit, Option.bind_some, if_pos rfl, hs, rd_cons _ _ _ (spl_ne _ _)]
        by_cases hw : (pieces 32 (Lib.cut x0.data.toList [10]).1).length = 3
        · rw [if_pos (by omega)]
          by_cases h100 : out.length = 100
          · rw [show ((out.length : Int) == 100) = true from beq_iff_eq.2 (by omega), bad, if_pos h100]
          · rw [show ((out.length : Int) == 100) = false from beq_eq_false_iff_ne.2 (by omega), if_neg h100]
            rw [impl_line out _ _ hw (fun i => by
              have := pieces_size 32 (Lib.cut x0.data.toList [10]).1 i
              omega) h3 k (by omega)]
            cases lineE (pieces 32 (Lib.cut x0.data.toList [10]).1) with
            | none => rfl
            | some e =>
              simp only
              rw [ih _ (out ++ [e]) k (by rw [Lib.size_eq]; simp; omega) (by omega) (by simp; omega) (by omega)]
        · rw [if_neg (by omega), bad]
          have : lineE (pieces 32 (Lib.cut x0.data.toList [10]).1) = none := by unfold lineE; rw [if_neg (fun h => hw h.1)]
          rw [this]
          split <;> rfl
      | false =>
        have hm := cut_miss 10 _ hc
        have hsplit : ∃ ws, strings_Split.f (⟨(Lib.cut x0.data.toList [10]).1.toArray⟩ : ByteArray) ⟨#[32]⟩ = some ws := by
          unfold strings_Split.f
          refine ⟨_, if_pos ⟨?_, by rw [Pz.sz1]; omega⟩⟩
          rw [Lib.size_eq]
          have : (Lib.cut x0.data.toList [10]).1.length ≤ x0.data.toList.length := by
            unfold Lib.cut
            split
            · simp [List.length_take]; omega
            · simp
          simp
          omega
        obtain ⟨ws, hws⟩ := hsplit
        rw [hws, Option.bind_some, if_neg (by simp), bad, hm]
        simp [rd, hd]
end Go.Proofs.YtenfegfoaobehaaDoor.RdP
