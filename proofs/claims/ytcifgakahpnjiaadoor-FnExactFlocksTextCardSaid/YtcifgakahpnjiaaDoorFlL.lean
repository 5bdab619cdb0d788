/- The law FnExactFlocksText, walked: for every list of flocks it returns true. -/
import Derived.Test.YtcifgakahpnjiaaDoorTfP
namespace Go.Proofs.YtcifgakahpnjiaaDoor
open Go.RowKit Go.Proofs.YtcifgakahpnjiaaDoorW.PrintWords Go.Proofs.YtcifgakahpnjiaaDoorW.PrintLast Go.Proofs.YtcifgakahpnjiaaDoorW.PrintMore Go.Proofs.YtcifgakahpnjiaaDoor.Tf Go.Proofs.YtcifgakahpnjiaaDoor.TfP
set_option linter.unusedSimpArgs false
set_option linter.unusedVariables false

abbrev flWf0 (x : S89) : Prop := (-32768 ≤ x.f0 ∧ x.f0 ≤ 32767) ∧ (-32768 ≤ x.f1 ∧ x.f1 ≤ 32767) ∧ (-32768 ≤ x.f2 ∧ x.f2 ≤ 32767) ∧ (-32768 ≤ x.f3 ∧ x.f3 ≤ 32767) ∧ (-32768 ≤ x.f4 ∧ x.f4 ≤ 32767) ∧ (-128 ≤ x.f5 ∧ x.f5 ≤ 127)

set_option maxHeartbeats 1000000 in
set_option maxRecDepth 100000 in
theorem specFlocksText (A0 : Option Addr) (c0 : Nat) (l0 : List S87) (w : World) (hr0 : Kd.C k87 w A0 l0.length l0) (hc0 : l0.length ≤ c0) (hn : l0.length ≤ 9223372036854775807) (hwf : ∀ x ∈ l0, flWf x) :
    Calls Tryd.prog 23 #[.slice A0 l0.length c0] w fun e w' => e = .returned (.string (flText l0)) ∧ Below w.heap.size w w' := by
  have HR := Aside0.mk hr0
  have HC := Aside0.mk hc0
  have HT := Aside0.mk (l02Told_calls A0 c0 l0 w hr0 hc0 hn hwf)
  clear hr0 hc0 hwf
  by_cases ht : flTold l0 = true
  · have HS := Aside0.mk (fl_specF l0 ht)
    rw [ht] at HT
    clear ht
    go_enter Tryd.func23, Tryd.ntmps23
    go_wp2_with fail
    (with_reducible refine HT.out.mono ?_); rintro e w1 ⟨rfl, n1, rfl⟩
    have HB : Aside0 (Below w.heap.size w (w.drewN n1)) := ⟨by (first | apply pw_below_drewN | apply below_drew1); exact Below.refl _ _⟩
    go_wp2_with fail
    (with_reducible refine (spec_l02Text.calls _ _ _ _ _ _ (Kd.C_below HR.out HB.out) HC.out HS.out).mono ?_); rintro e w2 ⟨rfl, hb2⟩
    go_wp2_with fail
    go_ret
    exact ⟨rfl, HB.out.trans hb2⟩
  · have hf : flTold l0 = false := by simpa using ht
    rw [hf] at HT
    have HE := Aside0.mk (fl_untold l0 hf)
    clear ht hf
    go_enter Tryd.func23, Tryd.ntmps23
    go_wp2_with fail
    (with_reducible refine HT.out.mono ?_); rintro e w1 ⟨rfl, n1, rfl⟩
    go_wp2_with fail
    go_ret
    exact ⟨by rw [HE.out]; rfl, by (first | apply pw_below_drewN | apply below_drew1); exact Below.refl _ _⟩

theorem R_open {α : Type} {d : Kd α} {e base : Nat} {ok : Nat → Prop} {w : World} {v : Value} {xs : List α} (h : d.R e w base ok v xs) : ∃ A c, v = .slice A xs.length c ∧ xs.length ≤ c ∧ d.C w A xs.length xs := by
  obtain ⟨inner, ho⟩ := Kd.R_own h
  obtain ⟨A, c, rfl⟩ := own_slice ho
  obtain ⟨h1, h2, h3⟩ := Kd.R_reads' h
  exact ⟨A, c, rfl, h2, h3⟩

set_option maxHeartbeats 1000000 in
set_option maxRecDepth 100000 in
theorem lawFlocksText (A0 : Option Addr) (c0 : Nat) (l0 : List S89) (w : World) (hr0 : Kd.C k89 w A0 l0.length l0) (hc0 : l0.length ≤ c0) (hn : l0.length ≤ 9223372036854775807) (ht : Tab w) (hwf : ∀ x ∈ l0, flWf0 x) :
    Calls Tryd.prog 6 #[.slice A0 l0.length c0] w fun e w' => e = .returned (.bool true) ∧ Below w.heap.size w w' := by
  have HR := Aside0.mk hr0
  have HC := Aside0.mk hc0
  have HT := Aside0.mk ht
  have HW := Aside0.mk hwf
  clear hr0 hc0 ht hwf
  by_cases hbig : 1048576 < l0.length
  · have hs : laws_szFlockS.f l0 1048576 = some (1048576 - (l0.length : Int)) ∨ laws_szFlockS.f l0 1048576 = some (-1) := by
      unfold laws_szFlockS.f
      have e : wrap64 (1048576 - (l0.length : Int)) = 1048576 - (l0.length : Int) := by unfold wrap64; omega
      rw [e, if_pos (by omega)]
      exact .inr rfl
    obtain ⟨r, hr, hneg⟩ : ∃ r, Aside0 (laws_szFlockS.f l0 1048576 = some r) ∧ r < 0 := by
      rcases hs with h | h
      · exact ⟨_, ⟨h⟩, by omega⟩
      · exact ⟨_, ⟨h⟩, by omega⟩
    clear hs
    go_enter Tryd.func6, Tryd.ntmps6
    go_wp2_with (first | (go_at_call 22; (with_reducible refine (laws_szFlockS.calls _ _ _ _ _ _ HR.out HC.out hr.out).mono ?_); rintro e w1 ⟨rfl, hb1⟩))
    go_ret
    exact ⟨rfl, hb1.below⟩
  · have hsm : l0.length ≤ 1048576 := by omega
    obtain ⟨r, hr, hneg⟩ : ∃ r, Aside0 (laws_szFlockS.f l0 1048576 = some r) ∧ 0 ≤ r := by
      refine ⟨1048576 - (l0.length : Int), ⟨?_⟩, by omega⟩
      unfold laws_szFlockS.f
      have e : wrap64 (1048576 - (l0.length : Int)) = 1048576 - (l0.length : Int) := by unfold wrap64; omega
      rw [e, if_neg (by omega)]
    have HTO := Aside0.mk (fl_toF l0 hsm (l0.length + 1) (by omega))
    obtain ⟨l1, hl1⟩ : ∃ l1, Aside0 (l0.map flCv = l1) := ⟨_, ⟨rfl⟩⟩
    rw [hl1.out] at HTO
    have hlen : l1.length = l0.length := by rw [← hl1.out, List.length_map]
    have hw1 : Aside0 (∀ x ∈ l1, flWf x) := ⟨by
      intro x hx
      rw [← hl1.out] at hx
      obtain ⟨y, hy, rfl⟩ := List.mem_map.1 hx
      exact HW.out y hy⟩
    have HE := Aside0.mk (fl_eqF l1 (by omega) (l1.length + 1) (by omega))
    have HL := Aside0.mk hlen
    have hlen1 : l1.length ≤ 1048576 := by omega
    clear hlen hbig
    go_enter Tryd.func6, Tryd.ntmps6
    go_wp2_with fail
    (with_reducible refine (laws_szFlockS.calls _ _ _ _ _ _ HR.out HC.out hr.out).mono ?_); rintro e w1 ⟨rfl, hb1⟩
    have HB := Aside0.mk hb1.below
    clear hb1
    go_wp2_with fail
    (with_reducible refine (laws_toFlockS.calls _ _ _ _ l1 _ (Kd.C_below HR.out HB.out) HC.out HTO.out).mono ?_); rintro e w2 ⟨v2, rfl, hR2, hb2⟩
    have HB := Aside0.mk (HB.out.trans (hb2.mono HB.out.size))
    obtain ⟨A2, c2, rfl, hc2, hC2⟩ := R_open hR2
    have HC2 := Aside0.mk hC2
    have Hc2 := Aside0.mk hc2
    clear hR2 hb2 hC2 hc2
    go_wp2_with fail
    (with_reducible refine (specFlocksText _ _ _ _ HC2.out Hc2.out (by omega) hw1.out).mono ?_); rintro e w3 ⟨rfl, hb3⟩
    have HB := Aside0.mk (HB.out.trans (hb3.mono HB.out.size))
    clear hb3
    go_wp2_with fail
    (with_reducible refine (laws_toFlockS.calls _ _ _ _ l1 _ (Kd.C_below HR.out HB.out) HC.out HTO.out).mono ?_); rintro e w4 ⟨v4, rfl, hR4, hb4⟩
    have HB := Aside0.mk (HB.out.trans (hb4.mono HB.out.size))
    obtain ⟨A4, c4, rfl, hc4, hC4⟩ := R_open hR4
    have HC4 := Aside0.mk hC4
    have Hc4 := Aside0.mk hc4
    clear hR4 hb4 hC4 hc4
    go_wp2_with fail
    (with_reducible refine (flocksText_calls _ _ _ _ (HT.out.on HB.out) HC4.out Hc4.out (by omega) hw1.out).mono ?_); rintro e w5 ⟨rfl, hb5⟩
    have HB := Aside0.mk (HB.out.trans (hb5.mono HB.out.size))
    have HC4 := Aside0.mk (Kd.C_below HC4.out hb5)
    clear hb5
    go_wp2_with fail
    (with_reducible refine (laws_toFlockS.calls _ _ _ _ l1 _ (Kd.C_below HR.out HB.out) HC.out HTO.out).mono ?_); rintro e w6 ⟨v6, rfl, hR6, hb6⟩
    have HB := Aside0.mk (HB.out.trans (hb6.mono HB.out.size))
    obtain ⟨A6, c6, rfl, hc6, hC6⟩ := R_open hR6
    have HC6 := Aside0.mk hC6
    have Hc6 := Aside0.mk hc6
    have HC4 := Aside0.mk (Kd.C_below HC4.out hb6)
    clear hR6 hb6 hC6 hc6
    go_wp2_with fail
    (with_reducible refine (laws_eqFlockS.calls _ _ _ _ _ _ _ _ _ HC4.out Hc4.out HC6.out Hc6.out HE.out).mono ?_); rintro e w7 ⟨rfl, hb7⟩
    have HB := Aside0.mk (HB.out.trans (hb7.mono HB.out.size))
    clear hb7
    go_wp2
    go_ret
    exact ⟨rfl, HB.out⟩

end Go.Proofs.YtcifgakahpnjiaaDoor
