/- The reference's l02Plain and l02Told over flocks. -/
import Derived.Test.YtcifgakahpnjiaaDoorFlC
namespace Go.Proofs.YtcifgakahpnjiaaDoor
open Go.RowKit Go.Proofs.YtcifgakahpnjiaaDoorW.PrintWords Go.Proofs.YtcifgakahpnjiaaDoorW.PrintLast Go.Proofs.YtcifgakahpnjiaaDoorW.PrintMore Go.Proofs.YtcifgakahpnjiaaDoor.Tf
set_option linter.unusedSimpArgs false
set_option linter.unusedVariables false

theorem in_is (a b c : Int) : spec_l00In.f a b c = some (decide (b ≤ a ∧ a ≤ c)) := by
  simp only [spec_l00In.f]
  by_cases h1 : a ≥ b
  · rw [if_pos h1]
    by_cases h2 : a ≤ c
    · rw [decide_eq_true h2, decide_eq_true ⟨h1, h2⟩]
    · rw [decide_eq_false h2, decide_eq_false (fun h => h2 h.2)]
  · rw [if_neg h1, decide_eq_false (fun h => h1 h.1)]
theorem in_ok {a b c : Int} (h : b ≤ a ∧ a ≤ c) : spec_l00In.f a b c = some true := by rw [in_is, decide_eq_true h]
theorem in_no {a b c : Int} (h : ¬ (b ≤ a ∧ a ≤ c)) : spec_l00In.f a b c = some false := by rw [in_is, decide_eq_false h]
abbrev flCells2 (w : World) (b : Addr) (x : S87) : Prop := w.cell? b = some (.int .i16 x.f0) ∧ w.cell? ⟨b.block, b.off + 1, none⟩ = some (.int .i16 x.f1) ∧ w.cell? ⟨b.block, b.off + 2, none⟩ = some (.int .i16 x.f2) ∧ w.cell? ⟨b.block, b.off + 3, none⟩ = some (.int .i16 x.f3) ∧ w.cell? ⟨b.block, b.off + 4, none⟩ = some (.int .i16 x.f4) ∧ w.cell? ⟨b.block, b.off + 5, none⟩ = some (.int .i8 x.f5)
def flOk2 (x : S87) : Bool := decide ((0 ≤ x.f1 ∧ x.f1 ≤ 200) ∧ (0 ≤ x.f2 ∧ x.f2 ≤ 20) ∧ (0 ≤ x.f3 ∧ x.f3 ≤ 1000) ∧ (0 ≤ x.f4 ∧ x.f4 ≤ 200) ∧ (0 ≤ x.f5 ∧ x.f5 ≤ 2))

set_option maxHeartbeats 4000000 in
set_option maxRecDepth 100000 in
theorem l02Plain_calls (b : Addr) (x : S87) (hx : flWf x) (w : World) (h : flCells2 w b x) :
    Calls Tryd.prog 63 #[.pointer (some b)] w fun e w' => e = .returned (.bool (flOk2 x)) ∧ Drawn0 w w' := by
  obtain ⟨h0, h1, h2, h3, h4, h5⟩ := h
  obtain ⟨z0, z1, z2, z3, z4, z5⟩ := hx
  have e1 : wrap64 x.f1 = x.f1 := by unfold wrap64; omega
  have e2 : wrap64 x.f2 = x.f2 := by unfold wrap64; omega
  have e3 : wrap64 x.f3 = x.f3 := by unfold wrap64; omega
  have e4 : wrap64 x.f4 = x.f4 := by unfold wrap64; omega
  have e5 : wrap64 x.f5 = x.f5 := by unfold wrap64; omega
  clear z0 z1 z2 z3 z4 z5
  by_cases c1 : 0 ≤ x.f1 ∧ x.f1 ≤ 200
  · have HP1 := Aside0.mk (show spec_l00In.f (wrap64 x.f1) 0 200 = some true by rw [e1]; exact in_ok c1)
    by_cases c2 : 0 ≤ x.f2 ∧ x.f2 ≤ 20
    · have HP2 := Aside0.mk (show spec_l00In.f (wrap64 x.f2) 0 20 = some true by rw [e2]; exact in_ok c2)
      by_cases c3 : 0 ≤ x.f3 ∧ x.f3 ≤ 1000
      · have HP3 := Aside0.mk (show spec_l00In.f (wrap64 x.f3) 0 1000 = some true by rw [e3]; exact in_ok c3)
        by_cases c4 : 0 ≤ x.f4 ∧ x.f4 ≤ 200
        · have HP4 := Aside0.mk (show spec_l00In.f (wrap64 x.f4) 0 200 = some true by rw [e4]; exact in_ok c4)
          by_cases c5 : 0 ≤ x.f5 ∧ x.f5 ≤ 2
          · have HP5 := Aside0.mk (show spec_l00In.f (wrap64 x.f5) 0 2 = some true by rw [e5]; exact in_ok c5)
            have HR := Aside0.mk (show flOk2 x = true by unfold flOk2; exact decide_eq_true ⟨c1, c2, c3, c4, c5⟩)
            clear c1 c2 c3 c4 c5 e1 e2 e3 e4 e5
            go_enter Tryd.func63, Tryd.ntmps63
            go_wp2_with (go_at_call 55; (first | ((with_reducible refine (spec_l00In.calls _ _ _ true _ HP1.out).mono ?_); rintro e w' ⟨rfl, nd1, rfl⟩) | ((with_reducible refine (spec_l00In.calls _ _ _ true _ HP2.out).mono ?_); rintro e w' ⟨rfl, nd2, rfl⟩) | ((with_reducible refine (spec_l00In.calls _ _ _ true _ HP3.out).mono ?_); rintro e w' ⟨rfl, nd3, rfl⟩) | ((with_reducible refine (spec_l00In.calls _ _ _ true _ HP4.out).mono ?_); rintro e w' ⟨rfl, nd4, rfl⟩) | ((with_reducible refine (spec_l00In.calls _ _ _ true _ HP5.out).mono ?_); rintro e w' ⟨rfl, nd5, rfl⟩)))
            go_ret
            exact ⟨by rw [HR.out]; rfl, ⟨_, rfl⟩⟩
          · have HP5 := Aside0.mk (show spec_l00In.f (wrap64 x.f5) 0 2 = some false by rw [e5]; exact in_no c5)
            have HR := Aside0.mk (show flOk2 x = false by unfold flOk2; exact decide_eq_false (fun h => c5 h.2.2.2.2))
            clear c1 c2 c3 c4 c5 e1 e2 e3 e4 e5
            go_enter Tryd.func63, Tryd.ntmps63
            go_wp2_with (go_at_call 55; (first | ((with_reducible refine (spec_l00In.calls _ _ _ true _ HP1.out).mono ?_); rintro e w' ⟨rfl, nd1, rfl⟩) | ((with_reducible refine (spec_l00In.calls _ _ _ true _ HP2.out).mono ?_); rintro e w' ⟨rfl, nd2, rfl⟩) | ((with_reducible refine (spec_l00In.calls _ _ _ true _ HP3.out).mono ?_); rintro e w' ⟨rfl, nd3, rfl⟩) | ((with_reducible refine (spec_l00In.calls _ _ _ true _ HP4.out).mono ?_); rintro e w' ⟨rfl, nd4, rfl⟩) | ((with_reducible refine (spec_l00In.calls _ _ _ false _ HP5.out).mono ?_); rintro e w' ⟨rfl, nd5, rfl⟩)))
            go_ret
            exact ⟨by rw [HR.out]; rfl, ⟨_, rfl⟩⟩
        · have HP4 := Aside0.mk (show spec_l00In.f (wrap64 x.f4) 0 200 = some false by rw [e4]; exact in_no c4)
          have HR := Aside0.mk (show flOk2 x = false by unfold flOk2; exact decide_eq_false (fun h => c4 h.2.2.2.1))
          clear c1 c2 c3 c4 e1 e2 e3 e4 e5
          go_enter Tryd.func63, Tryd.ntmps63
          go_wp2_with (go_at_call 55; (first | ((with_reducible refine (spec_l00In.calls _ _ _ true _ HP1.out).mono ?_); rintro e w' ⟨rfl, nd1, rfl⟩) | ((with_reducible refine (spec_l00In.calls _ _ _ true _ HP2.out).mono ?_); rintro e w' ⟨rfl, nd2, rfl⟩) | ((with_reducible refine (spec_l00In.calls _ _ _ true _ HP3.out).mono ?_); rintro e w' ⟨rfl, nd3, rfl⟩) | ((with_reducible refine (spec_l00In.calls _ _ _ false _ HP4.out).mono ?_); rintro e w' ⟨rfl, nd4, rfl⟩)))
          go_ret
          exact ⟨by rw [HR.out]; rfl, ⟨_, rfl⟩⟩
      · have HP3 := Aside0.mk (show spec_l00In.f (wrap64 x.f3) 0 1000 = some false by rw [e3]; exact in_no c3)
        have HR := Aside0.mk (show flOk2 x = false by unfold flOk2; exact decide_eq_false (fun h => c3 h.2.2.1))
        clear c1 c2 c3 e1 e2 e3 e4 e5
        go_enter Tryd.func63, Tryd.ntmps63
        go_wp2_with (go_at_call 55; (first | ((with_reducible refine (spec_l00In.calls _ _ _ true _ HP1.out).mono ?_); rintro e w' ⟨rfl, nd1, rfl⟩) | ((with_reducible refine (spec_l00In.calls _ _ _ true _ HP2.out).mono ?_); rintro e w' ⟨rfl, nd2, rfl⟩) | ((with_reducible refine (spec_l00In.calls _ _ _ false _ HP3.out).mono ?_); rintro e w' ⟨rfl, nd3, rfl⟩)))
        go_ret
        exact ⟨by rw [HR.out]; rfl, ⟨_, rfl⟩⟩
    · have HP2 := Aside0.mk (show spec_l00In.f (wrap64 x.f2) 0 20 = some false by rw [e2]; exact in_no c2)
      have HR := Aside0.mk (show flOk2 x = false by unfold flOk2; exact decide_eq_false (fun h => c2 h.2.1))
      clear c1 c2 e1 e2 e3 e4 e5
      go_enter Tryd.func63, Tryd.ntmps63
      go_wp2_with (go_at_call 55; (first | ((with_reducible refine (spec_l00In.calls _ _ _ true _ HP1.out).mono ?_); rintro e w' ⟨rfl, nd1, rfl⟩) | ((with_reducible refine (spec_l00In.calls _ _ _ false _ HP2.out).mono ?_); rintro e w' ⟨rfl, nd2, rfl⟩)))
      go_ret
      exact ⟨by rw [HR.out]; rfl, ⟨_, rfl⟩⟩
  · have HP1 := Aside0.mk (show spec_l00In.f (wrap64 x.f1) 0 200 = some false by rw [e1]; exact in_no c1)
    have HR := Aside0.mk (show flOk2 x = false by unfold flOk2; exact decide_eq_false (fun h => c1 h.1))
    clear c1 e1 e2 e3 e4 e5
    go_enter Tryd.func63, Tryd.ntmps63
    go_wp2_with (go_at_call 55; (first | ((with_reducible refine (spec_l00In.calls _ _ _ false _ HP1.out).mono ?_); rintro e w' ⟨rfl, nd1, rfl⟩)))
    go_ret
    exact ⟨by rw [HR.out]; rfl, ⟨_, rfl⟩⟩

def flTold (l : List S87) : Bool := l.all flOk && decide (l.length ≤ 12)
theorem told_bad (l : List S87) {x} (h : x ∈ l) (hx : flOk x = false) : flTold l = false := by
  unfold flTold
  rw [show l.all flOk = false from List.all_eq_false.2 ⟨x, h, by simp [hx]⟩]
  rfl
theorem told_good (l : List S87) (h : ∀ x ∈ l, flOk x = true) : flTold l = decide ((l.length : Int) ≤ 12) := by
  unfold flTold
  rw [show l.all flOk = true from List.all_eq_true.2 h, Bool.true_and]
  by_cases h1 : l.length ≤ 12
  · rw [decide_eq_true h1, decide_eq_true (by omega)]
  · rw [decide_eq_false h1, decide_eq_false (by omega)]
theorem flOk_split (x) : flOk x = (flOk2 x && decide (0 ≤ x.f0 ∧ x.f0 ≤ 99)) := by
  unfold flOk flOk2
  rw [← Bool.decide_and]
  congr 1
  apply propext
  constructor <;> intro h <;> omega

set_option maxHeartbeats 4000000 in
set_option maxRecDepth 100000 in
theorem l02Told_calls (A0 : Option Addr) (c0 : Nat) (l0 : List S87) (w : World) (hr0 : Kd.C k87 w A0 l0.length l0) (hc0 : l0.length ≤ c0) (hn : l0.length ≤ 9223372036854775807)
    (hwf : ∀ x ∈ l0, flWf x) :
    Calls Tryd.prog 48 #[.slice A0 l0.length c0] w fun e w' => e = .returned (.bool (flTold l0)) ∧ Drawn0 w w' := by
  have HR := Aside0.mk hr0
  have HC := Aside0.mk hc0
  have HW := Aside0.mk hwf
  clear hr0 hc0 hwf
  go_enter Tryd.func48, Tryd.ntmps48
  go_wp2_with fail
  go_loopw [3] (fun i wr => ∃ k nd : Nat, k ≤ l0.length ∧ i = .int .i64 k ∧ wr = w.drewN nd ∧ Aside0 (∀ x ∈ l0.take k, flOk x = true)) (fun i _ => l0.length - (intOf i).toNat)
  case atStart => exact ⟨0, 0, Nat.zero_le _, rfl, rfl, ⟨by simp⟩⟩
  case round =>
    obtain ⟨k, n0, hk, rfl, rfl, HOK⟩ := hrel
    by_cases hlt : k < l0.length
    · have p0 : (0 : Int) ≤ (k : Int) := by omega
      have q0 : (k : Int) < l0.length := by omega
      obtain ⟨ad, ea, hx0, hx1, hx2, hx3, hx4, hx5⟩ := at_T87 HR.out k p0 q0
      cases ea
      simp only [Int.toNat_natCast] at hx0 hx1 hx2 hx3 hx4 hx5
      have hmem : rd_T87 l0 k ∈ l0 := by
        unfold rd_T87
        rw [Int.toNat_natCast, fl_getD _ _ hlt]
        exact List.getElem_mem hlt
      obtain ⟨x, HX⟩ : ∃ x, Aside0 (rd_T87 l0 k = x) := ⟨_, ⟨rfl⟩⟩
      rw [HX.out] at hx0 hx1 hx2 hx3 hx4 hx5 hmem
      have hxx : l0[k] = x := by
        have := HX.out
        unfold rd_T87 at this
        rwa [Int.toNat_natCast, fl_getD _ _ hlt] at this
      have HTK2 := Aside0.mk (show l0.take (k + 1) = l0.take k ++ [x] by rw [List.take_succ_eq_append_getElem hlt, hxx])
      have HXW := Aside0.mk (HW.out x hmem)
      have HMEM := Aside0.mk hmem
      clear hmem hxx
      have HF := Aside0.mk (show flCells2 (w.drewN n0) (ad.add (k * 6)) x from ⟨hx0, hx1, hx2, hx3, hx4, hx5⟩)
      have HE := Aside0.mk (show wrap64 x.f0 = x.f0 by have := HXW.out; unfold wrap64; omega)
      by_cases h2 : flOk2 x = true
      · by_cases h1 : 0 ≤ x.f0 ∧ x.f0 ≤ 99
        · have HI := Aside0.mk (show spec_l00In.f (wrap64 x.f0) 0 99 = some true by rw [HE.out]; exact in_ok h1)
          have HOKX := Aside0.mk (show flOk x = true by rw [flOk_split, h2, decide_eq_true h1]; rfl)
          clear h1
          go_wp2_with fail
          (with_reducible refine (l02Plain_calls _ x HXW.out _ HF.out).mono ?_); rintro e w1 ⟨rfl, n1, rfl⟩
          rw [h2]
          clear h2
          go_wp2_with fail
          (with_reducible refine (spec_l00In.calls _ _ _ true _ HI.out).mono ?_); rintro e w1 ⟨rfl, n2, rfl⟩
          go_wp2_with fail
          go_roundw
          case rel => exact ⟨k + 1, _, hlt, by go_num, rfl, ⟨by rw [HTK2.out]; intro y hy; rcases List.mem_append.1 hy with hy | hy; exact HOK.out y hy; rw [List.mem_singleton.1 hy]; exact HOKX.out⟩⟩
          case measure => simp [intOf]; omega
        · have HI := Aside0.mk (show spec_l00In.f (wrap64 x.f0) 0 99 = some false by rw [HE.out]; exact in_no h1)
          have HOKX := Aside0.mk (show flOk x = false by rw [flOk_split, decide_eq_false h1, Bool.and_false])
          clear h1
          go_wp2_with fail
          (with_reducible refine (l02Plain_calls _ x HXW.out _ HF.out).mono ?_); rintro e w1 ⟨rfl, n1, rfl⟩
          rw [h2]
          clear h2
          go_wp2_with fail
          (with_reducible refine (spec_l00In.calls _ _ _ false _ HI.out).mono ?_); rintro e w1 ⟨rfl, n2, rfl⟩
          go_wp2_with fail
          go_ret
          exact ⟨by rw [told_bad l0 HMEM.out HOKX.out]; rfl, ⟨_, rfl⟩⟩
      · have h2' : flOk2 x = false := by simpa using h2
        have HOKX := Aside0.mk (show flOk x = false by rw [flOk_split, h2', Bool.false_and])
        go_wp2_with fail
        (with_reducible refine (l02Plain_calls _ x HXW.out _ HF.out).mono ?_); rintro e w1 ⟨rfl, n1, rfl⟩
        rw [h2']
        clear h2 h2'
        go_wp2_with fail
        go_ret
        exact ⟨by rw [told_bad l0 HMEM.out HOKX.out]; rfl, ⟨_, rfl⟩⟩
    · have q0 : ¬ (k : Int) < l0.length := by omega
      obtain rfl : k = l0.length := by omega
      rw [List.take_length] at HOK
      go_wp2_with fail
      go_ret
      exact ⟨by rw [told_good l0 HOK.out]; rfl, ⟨_, rfl⟩⟩
end Go.Proofs.YtcifgakahpnjiaaDoor
