/- The library's Join and the program's 'decimal', in the form that the printed functions call them. -/
import Derived.Test.YtcifgakahpnjiaaDoorStr
import Derived.Test.YtcifgakahpnjiaaDoorPz
import Derived.Test.YtcifgakahpnjiaaDoorWWords
import Derived.Test.YtcifgakahpnjiaaDoorWLast
import Derived.Test.YtcifgakahpnjiaaDoorWMore
import Derived.Lib.ItoaLen
namespace Go.Proofs.YtcifgakahpnjiaaDoor
open Go.RowKit Go.Proofs.YtcifgakahpnjiaaDoorW.PrintWords Go.Proofs.YtcifgakahpnjiaaDoorW.PrintLast Go.Proofs.YtcifgakahpnjiaaDoorW.PrintMore
set_option linter.unusedVariables false

abbrev Tab (w : World) : Prop := Lib.TabIs Tryd.prog w "internal/strconv.uint64pow10" .u64 Lib.pow10Tab
theorem Tab.on {w w' : World} (h : Tab w) (hb : Below w.heap.size w w') : Tab w' := Lib.tabBelow_of_tabIs h w' hb

def decB (n : Int) : ByteArray := ⟨(Lib.itoa n).toArray⟩
theorem decB_size (n : Int) (h0 : -9223372036854775808 ≤ n) (h1 : n ≤ 9223372036854775807) : (decB n).size ≤ 21 := by
  have := Lib.itoa_length_le n h0 h1
  simpa [decB, ByteArray.size] using this

def impl_decimal_int8.f (a0 : Int) : Option ByteArray := if -128 ≤ a0 ∧ a0 ≤ 127 then some (decB a0) else none
def impl_decimal_int16.f (a0 : Int) : Option ByteArray := if -32768 ≤ a0 ∧ a0 ≤ 32767 then some (decB a0) else none
def impl_decimal_int64.f (a0 : Int) : Option ByteArray := if -9223372036854775808 ≤ a0 ∧ a0 ≤ 9223372036854775807 then some (decB a0) else none

theorem impl_decimal_int8.calls (a0 : Int) (r : ByteArray) (w : World) (ht : Tab w) (h : impl_decimal_int8.f a0 = some r) :
    Calls Tryd.prog 40 #[.int .i8 a0] w fun e w' => e = .returned (.string r) ∧ Below w.heap.size w w' := by
  have HT := Aside0.mk ht
  unfold impl_decimal_int8.f at h
  split at h
  case isFalse => cases h
  rename_i hb
  obtain ⟨h0, h1⟩ := hb
  obtain rfl := Option.some.inj h
  clear ht h
  go_enter Tryd.func40, Tryd.ntmps40
  go_wp2_with (go_at_call 60; refine (Tryd.strconv_FormatInt_10 a0 (by omega) (by omega) _ HT.out).mono ?_; rintro e w' ⟨rfl, k, os, rfl⟩)
  go_ret
  exact ⟨rfl, Lib.below_grow _ _ (Nat.le_refl _) _ _⟩

theorem impl_decimal_int16.calls (a0 : Int) (r : ByteArray) (w : World) (ht : Tab w) (h : impl_decimal_int16.f a0 = some r) :
    Calls Tryd.prog 33 #[.int .i16 a0] w fun e w' => e = .returned (.string r) ∧ Below w.heap.size w w' := by
  have HT := Aside0.mk ht
  unfold impl_decimal_int16.f at h
  split at h
  case isFalse => cases h
  rename_i hb
  obtain ⟨h0, h1⟩ := hb
  obtain rfl := Option.some.inj h
  clear ht h
  go_enter Tryd.func33, Tryd.ntmps33
  go_wp2_with (go_at_call 60; refine (Tryd.strconv_FormatInt_10 a0 (by omega) (by omega) _ HT.out).mono ?_; rintro e w' ⟨rfl, k, os, rfl⟩)
  go_ret
  exact ⟨rfl, Lib.below_grow _ _ (Nat.le_refl _) _ _⟩

theorem impl_decimal_int64.calls (a0 : Int) (r : ByteArray) (w : World) (ht : Tab w) (h : impl_decimal_int64.f a0 = some r) :
    Calls Tryd.prog 53 #[.int .i64 a0] w fun e w' => e = .returned (.string r) ∧ Below w.heap.size w w' := by
  have HT := Aside0.mk ht
  unfold impl_decimal_int64.f at h
  split at h
  case isFalse => cases h
  rename_i hb
  obtain ⟨h0, h1⟩ := hb
  obtain rfl := Option.some.inj h
  clear ht h
  go_enter Tryd.func53, Tryd.ntmps53
  go_wp2_with (go_at_call 60; refine (Tryd.strconv_FormatInt_10 a0 (by omega) (by omega) _ HT.out).mono ?_; rintro e w' ⟨rfl, k, os, rfl⟩)
  go_ret
  exact ⟨rfl, Lib.below_grow _ _ (Nat.le_refl _) _ _⟩

def joinB (l0 : List ByteArray) (a1 : ByteArray) : ByteArray := ⟨(Lib.join (l0.map (·.data.toList)) a1.data.toList).toArray⟩
def strings_Join.f (l0 : List ByteArray) (a1 : ByteArray) : Option ByteArray := if (joinB l0 a1).size ≤ 140737488355328 ∧ l0.length ≤ 140737488355328 then some (joinB l0 a1) else none

theorem plain_addr {w : World} {ad : Addr} {u : Value} (h : w.cell? (ad.add 0) = some u) : ad = ⟨ad.block, ad.off, none⟩ := by
  obtain ⟨b, o, s⟩ := ad
  cases s with
  | none => rfl
  | some s =>
    exfalso
    unfold Addr.add at h
    simp only [World.cell?] at h
    split at h <;> simp at h

theorem strings_Join.calls (A0 : Option Addr) (c0 : Nat) (l0 : List ByteArray) (a1 : ByteArray) (r : ByteArray) (w : World) (hr0 : Kd.C Kd.string w A0 l0.length l0) (hc0 : l0.length ≤ c0) (h : strings_Join.f l0 a1 = some r) :
    Calls Tryd.prog 41 #[.slice A0 l0.length c0, .string a1] w fun e w' => e = .returned (.string r) ∧ Below w.heap.size w w' := by
  unfold strings_Join.f at h
  split at h
  case isFalse => cases h
  rename_i hb
  obtain rfl := Option.some.inj h
  by_cases hn : l0 = []
  · subst hn
    refine (Tryd.strings_Join_none A0 c0 a1 w).mono ?_
    rintro e w' ⟨rfl, rfl⟩
    exact ⟨rfl, Below.refl _ _⟩
  · have hp : 0 < l0.length := List.length_pos_iff.2 hn
    obtain ⟨ad, ea, h0⟩ := Kd.at_string hr0 0 (by omega) (by omega)
    subst ea
    rw [show (0 : Int).toNat = 0 from rfl] at h0
    have hpl := plain_addr h0
    have hcells : ∀ (j : Nat) x, l0[j]? = some x → w.cell? ⟨ad.block, ad.off + j, none⟩ = some (.string x) := by
      intro j x hj
      have hjl : j < l0.length := (List.getElem?_eq_some_iff.1 hj).1
      obtain ⟨ad2, e2, h2⟩ := Kd.at_string hr0 j (by omega) (by omega)
      cases e2
      rw [Int.toNat_natCast, hpl, add_at] at h2
      rw [h2]
      unfold rdOf
      rw [Int.toNat_natCast, List.getD_eq_getElem?_getD, hj]
      rfl
    have hbk : ad.block < w.heap.size := by
      have := World.block_lt_of_cell? w _ h0
      rw [hpl, add_at] at this
      exact this
    rw [hpl]
    refine (Tryd.strings_Join ad.block ad.off c0 l0 a1 w hcells hbk hb.2 hc0 ?_).mono ?_
    · have := hb.1
      simpa [joinB, ByteArray.size] using this
    · rintro e w' ⟨rfl, hb⟩
      exact ⟨rfl, hb⟩
end Go.Proofs.YtcifgakahpnjiaaDoor
