/- (*Flock).isPlain returns whether all six numbers are as told. -/
import Derived.Test.YtcifgakahpnjiaaDoorFlA
namespace Go.Proofs.YtcifgakahpnjiaaDoor
open Go.RowKit Go.Proofs.YtcifgakahpnjiaaDoorW.PrintWords Go.Proofs.YtcifgakahpnjiaaDoorW.PrintLast Go.Proofs.YtcifgakahpnjiaaDoorW.PrintMore Go.Proofs.YtcifgakahpnjiaaDoor.Tf
set_option linter.unusedSimpArgs false
set_option linter.unusedVariables false

def flOk (x : S87) : Bool := decide (0 ≤ x.f0 ∧ x.f0 ≤ 99 ∧ 0 ≤ x.f1 ∧ x.f1 ≤ 200 ∧ 0 ≤ x.f2 ∧ x.f2 ≤ 20 ∧ 0 ≤ x.f3 ∧ x.f3 ≤ 1000 ∧ 0 ≤ x.f4 ∧ x.f4 ≤ 200 ∧ 0 ≤ x.f5 ∧ x.f5 ≤ 2)
theorem within_ok (a b c : Int) (h : b ≤ a ∧ a ≤ c) : impl_within.f a b c = some true := by simp [impl_within.f, h.1, h.2]
theorem within_no (a b c : Int) (h : ¬ (b ≤ a ∧ a ≤ c)) : impl_within.f a b c = some false := by
  simp only [impl_within.f]
  by_cases h1 : a ≥ b
  · rw [if_pos h1, decide_eq_false (by omega)]
  · rw [if_neg h1]
def flNum (x : S87) : Nat → Int | 0 => x.f0 | 1 => x.f1 | 2 => x.f2 | 3 => x.f3 | 4 => x.f4 | _ => x.f5
def flMax : Nat → Int | 0 => 99 | 1 => 200 | 2 => 20 | 3 => 1000 | 4 => 200 | _ => 2

set_option maxRecDepth 100000 in
theorem idx_flock (x : S87) (k : Nat) (h : k < 6) (w' : World) : Sem.run Tryd.prog (Instr.index 90 (Value.agg #[Value.int .i64 x.f0, .int .i64 x.f1, .int .i64 x.f2, .int .i64 x.f3, .int .i64 x.f4, .int .i64 x.f5]) (.int .i64 k)) w' = .ok (.int .i64 (flNum x k)) w' := by
  rcases k with _ | _ | _ | _ | _ | _ | k
  all_goals first | (exfalso; omega) | (simp [Instr.index, Tryd.underlying90, flNum, Sem.run_bind, Result.andThen]; try rfl)

set_option maxHeartbeats 4000000 in
set_option maxRecDepth 100000 in
theorem flPlain_calls (g : Nat) (x : S87) (hx : flWf x) (w : World) (h : flCells w ⟨g, 0, none⟩ x) :
    Calls Tryd.prog 51 #[.pointer (some ⟨g, 0, none⟩)] w fun e w' => e = .returned (.bool (flOk x)) ∧ Below w.heap.size w w' := by
  have HC := Aside0.mk h
  have HX := Aside0.mk hx
  clear hx h
  go_enter Tryd.func51, Tryd.ntmps51
  go_wp2_with fail
  (with_reducible refine (numbersOf_calls g x HX.out _ HC.out).mono ?_); rintro e w1 ⟨rfl, hb1⟩
  have HB := Aside0.mk hb1
  clear hb1
  go_wp2_with fail
  go_loopw [13] (fun i wr => ∃ k : Nat, k ≤ 6 ∧ i = .int .i64 k ∧ wr.heap[w1.heap.size + 1]? = some (.cells #[.int .i64 99, .int .i64 200, .int .i64 20, .int .i64 1000, .int .i64 200, .int .i64 2] 90 (0, 0)) ∧ Aside0 (Below w.heap.size w wr) ∧ Aside0 (∀ j, j < k → 0 ≤ flNum x j ∧ flNum x j ≤ flMax j)) (fun i _ => 6 - (intOf i).toNat)
  case atStart => exact ⟨0, Nat.zero_le _, rfl, heap_alloc2_new w1 _ _, ⟨HB.out.trans ((((Below.refl _ _).alloc (Nat.le_refl _) _).alloc (by simp) _).mono HB.out.size)⟩, ⟨fun j h => absurd h (Nat.not_lt_zero _)⟩⟩
  case round =>
    obtain ⟨k, hk, rfl, HM, HB, HO⟩ := hrel
    by_cases hlt : k < 6
    · have p0 : (0 : Int) ≤ (k : Int) := by omega
      have q0 : (k : Int) < 6 := by omega
      have hidx : ∀ w' : World, Sem.run Tryd.prog (Instr.index 90 (Value.agg #[Value.int .i64 x.f0, .int .i64 x.f1, .int .i64 x.f2, .int .i64 x.f3, .int .i64 x.f4, .int .i64 x.f5]) (.int .i64 k)) w' = .ok (.int .i64 (flNum x k)) w' := idx_flock x k hlt
      have hcell : wr.cell? ⟨w1.heap.size + 1, k, none⟩ = some (.int .i64 (flMax k)) := by
        rw [blk_cell HM]
        rcases k with _ | _ | _ | _ | _ | _ | k <;> first | rfl | omega
      by_cases hok : 0 ≤ flNum x k ∧ flNum x k ≤ flMax k
      · have HOK := Aside0.mk hok
        clear hok
        go_wp2_with fail
        (with_reducible refine (impl_within.calls _ _ _ true _ (within_ok _ _ _ HOK.out)).mono ?_); rintro e w2 ⟨rfl, nd, rfl⟩
        have HB2 : Aside0 (Below w.heap.size w (wr.drewN nd)) := ⟨by (first | apply pw_below_drewN | apply below_drew1); exact HB.out⟩
        have HM2 : (wr.drewN nd).heap[w1.heap.size + 1]? = some (.cells #[.int .i64 99, .int .i64 200, .int .i64 20, .int .i64 1000, .int .i64 200, .int .i64 2] 90 (0, 0)) := HM
        go_wp2_with fail
        go_roundw
        case rel => exact ⟨k + 1, hlt, by go_num, HM2, HB2, ⟨fun j hj => by rcases Nat.lt_succ_iff_lt_or_eq.1 hj with h | rfl; exact HO.out j h; exact HOK.out⟩⟩
        case measure => simp [intOf]; omega
      · have HOK := Aside0.mk hok
        clear hok
        go_wp2_with fail
        (with_reducible refine (impl_within.calls _ _ _ false _ (within_no _ _ _ HOK.out)).mono ?_); rintro e w2 ⟨rfl, nd, rfl⟩
        have HB2 : Aside0 (Below w.heap.size w (wr.drewN nd)) := ⟨by (first | apply pw_below_drewN | apply below_drew1); exact HB.out⟩
        go_wp2_with fail
        go_ret
        have : flOk x = false := by
          have h := HOK.out
          unfold flOk
          rw [decide_eq_false]
          rcases k with _ | _ | _ | _ | _ | _ | k <;> simp only [flNum, flMax] at h <;> omega
        exact ⟨by rw [this]; rfl, HB2.out⟩
    · have q0 : ¬ (k : Int) < 6 := by omega
      go_wp2_with fail
      go_ret
      have : flOk x = true := by
        have h0 := HO.out 0 (by omega)
        have h1 := HO.out 1 (by omega)
        have h2 := HO.out 2 (by omega)
        have h3 := HO.out 3 (by omega)
        have h4 := HO.out 4 (by omega)
        have h5 := HO.out 5 (by omega)
        simp only [flNum, flMax] at h0 h1 h2 h3 h4 h5
        unfold flOk
        rw [decide_eq_true]
        omega
      exact ⟨by rw [this]; rfl, HB.out⟩
end Go.Proofs.YtcifgakahpnjiaaDoor
