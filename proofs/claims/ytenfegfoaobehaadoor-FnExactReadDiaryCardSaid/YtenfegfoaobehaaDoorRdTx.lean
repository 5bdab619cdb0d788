/- The library's Cut and Split and the program's parse in the form that the printed proofs call; the condition on the world: the listed tables hold what their initialisers lay. -/
import Derived.Test.YtenfegfoaobehaaDoorShelf
import Derived.Test.YtenfegfoaobehaaDoorWWords
import Derived.Test.YtenfegfoaobehaaDoorWLast
import Derived.Test.YtenfegfoaobehaaDoorWMore
import Derived.Test.YtenfegfoaobehaaDoorWFour
import Derived.Test.YtenfegfoaobehaaDoorPz
import Derived.Lib.ItoaLen
import Derived.Lib.ItoaMem
import Derived.Lib.LaidTab
import Derived.Lib.AppendIntMem
import Derived.WalkKit
import Derived.BigCall
namespace Go.Proofs.YtenfegfoaobehaaDoor
open Go.RowKit Go.Proofs.YtenfegfoaobehaaDoorW.PrintWords Go.Proofs.YtenfegfoaobehaaDoorW.PrintLast Go.Proofs.YtenfegfoaobehaaDoorW.PrintMore
set_option linter.unusedSimpArgs false
set_option linter.unusedVariables false

abbrev Tab (w : World) : Prop := Lib.TabIs Tryd.prog w "internal/strconv.uint64pow10" .u64 Lib.pow10Tab ∧ (∃ m, w.cell? ⟨0, 0, none⟩ = some (.int .i64 m)) ∧ (∃ t p, w.cell? ⟨1, 0, none⟩ = some (.iface t p)) ∧ (∃ t p, w.cell? ⟨2, 0, none⟩ = some (.iface t p))
theorem Tab.on {w w' : World} (h : Tab w) (hb : Below w.heap.size w w') : Tab w' := by
  obtain ⟨h1, ⟨m, h2⟩, ⟨t, p, h3⟩, ⟨t', p', h4⟩⟩ := h
  exact ⟨Lib.tabBelow_of_tabIs h1 w' hb, ⟨m, (hb.cell (World.block_lt_of_cell? w _ h2)).trans h2⟩, ⟨t, p, (hb.cell (World.block_lt_of_cell? w _ h3)).trans h3⟩, ⟨t', p', (hb.cell (World.block_lt_of_cell? w _ h4)).trans h4⟩⟩

theorem bytes_ne {a b : ByteArray} : a.data.toList = b.data.toList ↔ a = b := by
  constructor
  · intro h
    apply ByteArray.ext
    exact Array.toList_inj.1 h
  · rintro rfl; rfl

def strings_Cut.f (a0 a1 : ByteArray) : Option (ByteArray × ByteArray × Bool) := if a0.size < 4294967281 then some (⟨(Lib.cut a0.data.toList a1.data.toList).1.toArray⟩, ⟨(Lib.cut a0.data.toList a1.data.toList).2.1.toArray⟩, (Lib.cut a0.data.toList a1.data.toList).2.2) else none
theorem strings_Cut.calls (a0 a1 : ByteArray) (r1 r2 : ByteArray) (r3 : Bool) (w : World) (ht : Tab w) (h : strings_Cut.f a0 a1 = some (r1, r2, r3)) :
    Calls Tryd.prog 13 #[.string a0, .string a1] w fun e w' => e = .returned (.tuple #[.string r1, .string r2, .bool r3]) ∧ Drawn0 w w' := by
  unfold strings_Cut.f at h
  split at h
  · rename_i hs
    obtain ⟨m, hm⟩ := ht.2.1
    have h := Option.some.inj h
    simp only [Prod.mk.injEq] at h
    obtain ⟨rfl, rfl, rfl⟩ := h
    refine (Tryd.strings_Cut a0 a1 m w hs hm).mono ?_
    rintro e w' ⟨rfl, n, rfl⟩
    exact ⟨rfl, n, rfl⟩
  · cases h

def strings_Split.f (a0 a1 : ByteArray) : Option (List ByteArray) := if a0.size < 4294967281 ∧ 1 ≤ a1.size then some (Lib.splitB a1 0 (Lib.countB a0 a1) a0) else none
theorem strings_Split.calls (a0 a1 : ByteArray) (r : List ByteArray) (w : World) (ht : Tab w) (h : strings_Split.f a0 a1 = some r) :
    Calls Tryd.prog 14 #[.string a0, .string a1] w fun e w' => ∃ v0_ : Value, e = .returned v0_ ∧ Kd.R Kd.string 9 w' w.heap.size (fun _ => True) v0_ r ∧ Below w.heap.size w w' := by
  unfold strings_Split.f at h
  split at h
  case isFalse => cases h
  rename_i hs
  obtain rfl := Option.some.inj h
  obtain ⟨m, hm⟩ := ht.2.1
  have hlen := Lib.splitB_all a1 hs.2 0 _ a0 rfl
  refine (Tryd.strings_Split a0 a1 m w hs.1 hm hs.2).mono ?_
  rintro e w' ⟨rfl, rfl⟩
  refine ⟨_, rfl, ?_, (Below.refl _ _).alloc (Nat.le_refl _) _⟩
  have hcnt := Lib.countB_le a1 hs.2 a0.size a0 (Nat.le_refl _)
  refine ⟨fun _ _ => trivial, (Lib.splitB a1 0 (Lib.countB a0 a1) a0).map Value.string, ?_, ?_⟩
  · have h2 := World.ownsRow_lit (base := w.heap.size) (e := 9) (size := Kd.string.sz) w ((Lib.splitB a1 0 (Lib.countB a0 a1) a0).map Value.string).toArray (Lib.countB a0 a1 + 1) (Nat.le_refl _) (by unfold maxLen; omega) (by simp [hlen, Kd.string, Kd.scalar])
    rw [hlen]
    simpa using h2
  · refine ⟨by simp [Kd.string, Kd.scalar], fun j p hj => ?_⟩
    show (((Lib.splitB a1 0 (Lib.countB a0 a1) a0).map Value.string).drop (j * 1)).take 1 = [Value.string p]
    obtain ⟨hjl, hp⟩ := List.getElem?_eq_some_iff.1 hj
    rw [Nat.mul_one, List.drop_eq_getElem_cons (by simpa using hjl)]
    simp [hp]

def impl_parse.f (a0 : ByteArray) (a1 a2 : Int) : Option (Int × Bool) := if a0.size ≤ 281474976710656 then some (match Lib.parseIntB 64 a0.data.toList with
  | .ok v => (v, decide (a1 ≤ v ∧ v ≤ a2) && decide (Lib.itoa v = a0.data.toList))
  | .range => (Lib.intSat 64 a0.data.toList, false)
  | _ => (0, false)) else none

theorem within_calls (a b c : Int) (w : World) : Calls Tryd.prog 22 #[.int .i64 a, .int .i64 b, .int .i64 c] w fun e w' => e = .returned (.bool (decide (b ≤ a ∧ a ≤ c))) ∧ Drawn0 w w' := by
  by_cases h1 : b ≤ a
  · by_cases h2 : a ≤ c
    · rw [decide_eq_true ⟨h1, h2⟩]
      go_enter Tryd.func22, Tryd.ntmps22
      go_wp2_with fail
      go_ret
      exact ⟨by simp [*], ⟨0, rfl⟩⟩
    · rw [decide_eq_false (fun h => h2 h.2)]
      go_enter Tryd.func22, Tryd.ntmps22
      go_wp2_with fail
      go_ret
      exact ⟨by simp [*], ⟨0, rfl⟩⟩
  · rw [decide_eq_false (fun h => h1 h.1)]
    go_enter Tryd.func22, Tryd.ntmps22
    go_wp2_with fail
    go_ret
    exact ⟨by simp [*], ⟨0, rfl⟩⟩

set_option maxHeartbeats 2000000 in
set_option maxRecDepth 100000 in
theorem impl_parse.calls (a0 : ByteArray) (a1 a2 : Int) (r1 : Int) (r2 : Bool) (w : World) (ht : Tab w) (h : impl_parse.f a0 a1 a2 = some (r1, r2)) :
    Calls Tryd.prog 17 #[.string a0, .int .i64 a1, .int .i64 a2] w fun e w' => e = .returned (.tuple #[.int .i64 r1, .bool r2]) ∧ Below w.heap.size w w' := by
  unfold impl_parse.f at h
  split at h
  case isFalse => cases h
  rename_i hs
  have HT := Aside0.mk ht
  have h := Option.some.inj h
  clear ht
  cases hp : Lib.parseIntB 64 a0.data.toList
  case ok v =>
    rw [hp] at h
    simp only [Prod.mk.injEq] at h
    obtain ⟨rfl, rfl⟩ := h
    have hv := Lib.parseIntB_bounds hp
    have HP := Aside0.mk (Tryd.strconv_ParseInt_10_at64_ok a0 (by omega) v hp w)
    have HV := Aside0.mk hv
    clear hp hv
    by_cases hin : a1 ≤ v ∧ v ≤ a2
    · obtain ⟨q1, q2⟩ := hin
      rw [decide_eq_true (⟨q1, q2⟩ : a1 ≤ v ∧ v ≤ a2), Bool.true_and]
      go_enter Tryd.func17, Tryd.ntmps17
      go_wp2_with fail
      (with_reducible refine HP.out.mono ?_); rintro e w1 ⟨rfl, hw1⟩
      have hb1 : Below w.heap.size w w1 := by
        rcases hw1 with rfl | ⟨t, rfl⟩
        · exact Below.refl _ _
        · exact Lib.bytesWorld_below _ _ _
      have HB := Aside0.mk hb1
      clear hw1 hb1
      have HW := Aside0.mk (within_calls v a1 a2)
      have HI := Aside0.mk (show decide (a1 ≤ v ∧ v ≤ a2) = true from decide_eq_true ⟨q1, q2⟩)
      go_wp2_with fail
      (with_reducible refine (HW.out _).mono ?_); rintro e w2 ⟨rfl, n, rfl⟩
      rw [HI.out]
      have HB2 : Aside0 (Below w.heap.size w (w1.drewN n)) := ⟨by (first | apply pw_below_drewN | apply below_drew1); exact HB.out⟩
      go_wp2_with fail
      (with_reducible refine (Tryd.strconv_FormatInt_10 v (by have := HV.out; omega) (by have := HV.out; omega) _ (HT.out.on HB2.out).1).mono ?_); rintro e w3 ⟨rfl, k, os, hw3⟩
      have hb3 : Below (w1.drewN n).heap.size (w1.drewN n) w3 := by rw [hw3]; exact Lib.below_grow _ _ (Nat.le_refl _) _ _
      have HB3 := Aside0.mk (HB2.out.trans (hb3.mono HB2.out.size))
      clear hw3 hb3
      by_cases he : Lib.itoa v = a0.data.toList
      · have he' : (⟨(Lib.itoa v).toArray⟩ : ByteArray) = a0 := by
          apply ByteArray.ext
          simp [he]
        rw [he']
        go_wp2_with fail
        go_ret2
        exact ⟨by rw [decide_eq_true he]; simp, HB3.out⟩
      · have he' : ¬ (⟨(Lib.itoa v).toArray⟩ : ByteArray) = a0 := by
          intro h
          apply he
          rw [← h]
        go_wp2_with fail
        go_ret2
        have he2 : ¬ Lib.itoa v = a0.toList := by
          rw [ByteArray.toList_eq]
          exact he
        exact ⟨by rw [decide_eq_false he]; simp [he2], HB3.out⟩
    · rw [decide_eq_false hin, Bool.false_and]
      have HI := Aside0.mk (show decide (a1 ≤ v ∧ v ≤ a2) = false from decide_eq_false hin)
      clear hin
      go_enter Tryd.func17, Tryd.ntmps17
      go_wp2_with fail
      (with_reducible refine HP.out.mono ?_); rintro e w1 ⟨rfl, hw1⟩
      have hb1 : Below w.heap.size w w1 := by
        rcases hw1 with rfl | ⟨t, rfl⟩
        · exact Below.refl _ _
        · exact Lib.bytesWorld_below _ _ _
      have HB := Aside0.mk hb1
      clear hw1 hb1
      have HW := Aside0.mk (within_calls v a1 a2)
      go_wp2_with fail
      (with_reducible refine (HW.out _).mono ?_); rintro e w2 ⟨rfl, n, rfl⟩
      rw [HI.out]
      have HB2 : Aside0 (Below w.heap.size w (w1.drewN n)) := ⟨by (first | apply pw_below_drewN | apply below_drew1); exact HB.out⟩
      go_wp2_with fail
      go_ret2
      exact ⟨by simp, HB2.out⟩
  case range =>
    rw [hp] at h
    simp only [Prod.mk.injEq] at h
    obtain ⟨rfl, rfl⟩ := h
    obtain ⟨t, p, he⟩ := HT.out.2.2.2
    have HP := Aside0.mk (Tryd.strconv_ParseInt_10_at64_range a0 hs hp _ w he (.inr ⟨_, _, rfl⟩))
    clear hp he
    go_enter Tryd.func17, Tryd.ntmps17
    go_wp2_with fail
    (with_reducible refine HP.out.mono ?_); rintro e w1 ⟨N, rfl, h1, h2, hb1⟩
    go_wp2_with fail
    go_ret2
    exact ⟨rfl, hb1⟩
  rw [hp] at h
  simp only [Prod.mk.injEq] at h
  obtain ⟨rfl, rfl⟩ := h
  obtain ⟨t, p, he⟩ := HT.out.2.2.1
  have HP : Aside0 (Calls Tryd.prog 21 #[.string a0, .int .i64 10, .int .i64 64] w fun e w' => ∃ N, e = .returned (.tuple #[.int .i64 0, .iface 64 (.pointer (some ⟨N, 0, none⟩))]) ∧ Below w.heap.size w w') :=
    ⟨(Any.strconv_ParseInt_10_at64_syntax Tryd.laysC174 a0 hs hp _ w he (.inr ⟨_, _, rfl⟩)).mono fun e w' ⟨N, he, _, _, hb⟩ => ⟨N, he, hb⟩⟩
  clear hp he
  go_enter Tryd.func17, Tryd.ntmps17
  go_wp2_with fail
  (with_reducible refine HP.out.mono ?_); rintro e w1 ⟨N, rfl, hb1⟩
  go_wp2_with fail
  go_ret2
  exact ⟨rfl, hb1⟩
end Go.Proofs.YtenfegfoaobehaaDoor
