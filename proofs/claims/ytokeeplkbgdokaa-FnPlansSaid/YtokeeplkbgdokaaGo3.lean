/- The law FnPlans answers true for every input, and its two arguments read behind the call as they read before: no condition. -/
import Derived.Test.YtokeeplkbgdokaaGo0
import Derived.Test.YtokeeplkbgdokaaGo1
import Derived.Test.YtokeeplkbgdokaaGo2
import Derived.Test.YtokeeplkbgdokaaRows
import Derived.WalkKit
import Derived.ProofKit
import Derived.OpenShut
import Derived.ShutString
import Derived.ChangeOld
import Derived.Below
import Derived.SizedLaws
import Derived.Test.YtokeeplkbgdokaaWSized
/- Functions of the program as Lean functions, each with a proof that a call of it comes to just that. Written by this session's program wip/tools/myprint.py. -/
namespace Go.Proofs.Ytokeeplkbgdokaa.Pq
open Go.RowKit Go.Proofs.YtokeeplkbgdokaaW.PrintWords Go.Proofs.YtokeeplkbgdokaaW.PrintLast Go.Proofs.YtokeeplkbgdokaaW.PrintMore
attribute [local go_sem] max2_int min2_int max_two min_two max_three min_three max_four min_four   -- for this text's walks alone
set_option linter.unusedVariables false
set_option linter.unusedSimpArgs false

/-! ### spec_HandsFor: function 21 -/
mutual
def spec_HandsFor.j0 : Nat → List (S40) → Int → Int → Int → Option (Int × Int)
 | 0, _, _, _, _ => none
 | k + 1, x0, x1, x2, x8 => if x8 = 0 then (spec_HandsFor.l0 k x0 x1 x2 1) else (some (0, x8))
def spec_HandsFor.l0 : Nat → List (S40) → Int → Int → Int → Option (Int × Int)
 | 0, _, _, _, _ => none
 | k + 1, x0, x1, x2, x9 => if x9 ≤ 3 then ((spec_l07Try.f x0 x9 x1 (([] : List Int))).bind fun t356 => (if t356 ≥ x2 then (some (x9, 0)) else (spec_HandsFor.l0 k x0 x1 x2 (wrap64 (x9 + 1))))) else (some (0, 6))
end
def spec_HandsFor.f (k : Nat) (l0 : List (S40)) (a1 : Int) (a2 : Int) : Option (Int × Int) := (spec_l07Days.f a1).bind fun t350 => (if t350 = true then ((spec_l07Asked.f k l0 (decide (a2 ≥ 0))).bind fun t351 => (spec_HandsFor.j0 k l0 a1 a2 t351)) else ((spec_l07Asked.f k l0 false).bind fun t352 => (spec_HandsFor.j0 k l0 a1 a2 t352)))
theorem spec_HandsFor.mono_l : ∀ k, (∀ y0 y1 y2 y3, LeO (spec_HandsFor.j0 k y0 y1 y2 y3) (spec_HandsFor.j0 (k + 1) y0 y1 y2 y3)) ∧ (∀ y0 y1 y2 y3, LeO (spec_HandsFor.l0 k y0 y1 y2 y3) (spec_HandsFor.l0 (k + 1) y0 y1 y2 y3))
 | 0 => ⟨fun _ _ _ _ r h => by simp [spec_HandsFor.j0] at h, fun _ _ _ _ r h => by simp [spec_HandsFor.l0] at h⟩
 | k + 1 => by
  obtain ⟨ih0, ih1⟩ := spec_HandsFor.mono_l k
  refine ⟨?_, ?_⟩
  ·intro y0 y1 y2 y3
   unfold spec_HandsFor.j0
   repeat' first
   | (with_reducible exact ih0 _ _ _ _)
   | (with_reducible exact ih1 _ _ _ _)
   | (with_reducible exact spec_l07Asked.mono _ _ _)
   | (with_reducible exact LeO.refl _)
   | (with_reducible exact LeO.none _)
   | (with_reducible refine LeO.ite ?_ ?_)
   | (with_reducible refine LeO.bind ?_ (fun _ => ?_))
   | exact ih0 _ _ _ _
   | exact ih1 _ _ _ _
   | exact spec_l07Asked.mono _ _ _
   | exact LeO.none _
   | refine LeO.ite ?_ ?_
   | refine LeO.bind ?_ (fun _ => ?_)
  ·intro y0 y1 y2 y3
   unfold spec_HandsFor.l0
   repeat' first
   | (with_reducible exact ih0 _ _ _ _)
   | (with_reducible exact ih1 _ _ _ _)
   | (with_reducible exact spec_l07Asked.mono _ _ _)
   | (with_reducible exact LeO.refl _)
   | (with_reducible exact LeO.none _)
   | (with_reducible refine LeO.ite ?_ ?_)
   | (with_reducible refine LeO.bind ?_ (fun _ => ?_))
   | exact ih0 _ _ _ _
   | exact ih1 _ _ _ _
   | exact spec_l07Asked.mono _ _ _
   | exact LeO.none _
   | refine LeO.ite ?_ ?_
   | refine LeO.bind ?_ (fun _ => ?_)
theorem spec_HandsFor.mono : ∀ a0 a1 a2 k, LeO (spec_HandsFor.f k a0 a1 a2) (spec_HandsFor.f (k + 1) a0 a1 a2) := by
 intro a0 a1 a2 k
 obtain ⟨ih0, ih1⟩ := spec_HandsFor.mono_l k
 unfold spec_HandsFor.f
 repeat' first
   | (with_reducible exact ih0 _ _ _ _)
   | (with_reducible exact ih1 _ _ _ _)
   | (with_reducible exact spec_l07Asked.mono _ _ _)
   | (with_reducible exact LeO.refl _)
   | (with_reducible exact LeO.none _)
   | (with_reducible refine LeO.ite ?_ ?_)
   | (with_reducible refine LeO.bind ?_ (fun _ => ?_))
   | exact ih0 _ _ _ _
   | exact ih1 _ _ _ _
   | exact spec_l07Asked.mono _ _ _
   | exact LeO.none _
   | refine LeO.ite ?_ ?_
   | refine LeO.bind ?_ (fun _ => ?_)
set_option maxHeartbeats 8000000 in
set_option maxRecDepth 100000 in
theorem spec_HandsFor.calls (k : Nat) (A0 : Option Addr) (c0 : Nat) (l0 : List (S40)) (a1 : Int) (a2 : Int) (r1 : Int) (r2 : Int) (w : World) (hr0 : Kd.C k40 w A0 l0.length l0) (hc0 : l0.length ≤ c0) (h : spec_HandsFor.f k l0 a1 a2 = some (r1, r2)) :
  Calls Try.prog 21 #[.slice A0 l0.length c0, .int .i64 a1, .int .i64 a2] w fun e w' => e = .returned (.tuple #[.int .i64 r1, .int .i64 r2]) ∧ Below w.heap.size w w' := by
 have HR0 := Aside0.mk hr0
 have HC0 := Aside0.mk hc0
 clear hr0 hc0
 have HB := Aside0.mk (Below.refl w.heap.size w)
 have H : ((spec_l07Days.f a1).bind fun t350 => (if t350 = true then ((spec_l07Asked.f k l0 (decide (a2 ≥ 0))).bind fun t351 => (spec_HandsFor.j0 k l0 a1 a2 t351)) else ((spec_l07Asked.f k l0 false).bind fun t352 => (spec_HandsFor.j0 k l0 a1 a2 t352)))) = some (r1, r2) := h
 clear h
 have HC4 := Aside0.mk H
 clear H
 go_enter Try.func21, Try.ntmps21
 go_upto_region 1 with (fail)
 go_cut [8] (fun v8 wc => ∃ (kq : Nat) (x8_3 : Int), v8 = .int .i64 x8_3 ∧ Aside0 (spec_HandsFor.j0 kq l0 a1 a2 x8_3 = some (r1, r2)) ∧ Aside0 (kq ≤ k) ∧ Aside0 (Below w.heap.size w wc))
 case first =>
  have H := HC4.out
  clear HC4
  replace H := Option.bind_eq_some_iff.mp H
  obtain ⟨t350, A50, H⟩ := H
  replace H : (if t350 = true then ((spec_l07Asked.f k l0 (decide (a2 ≥ 0))).bind fun t351 => (spec_HandsFor.j0 k l0 a1 a2 t351)) else ((spec_l07Asked.f k l0 false).bind fun t352 => (spec_HandsFor.j0 k l0 a1 a2 t352))) = some (r1, r2) := H
  have A5 := Aside0.mk A50
  clear A50
  by_cases c6 : t350 = true
  ·subst c6
   have H1 : ((spec_l07Asked.f k l0 (decide (a2 ≥ 0))).bind fun t351 => (spec_HandsFor.j0 k l0 a1 a2 t351)) = some (r1, r2) := by rw [if_pos rfl] at H; exact H
   clear H
   have H := H1
   clear H1
   replace H := Option.bind_eq_some_iff.mp H
   obtain ⟨t351, A70, H⟩ := H
   replace H : (spec_HandsFor.j0 k l0 a1 a2 t351) = some (r1, r2) := H
   have A7 := Aside0.mk A70
   clear A70
   have H' := Aside0.mk H
   clear H
   go_wp2_with (first | ((with_reducible refine gate_callee (f := 43) rfl ?_); refine goesL_ (some 12) rfl rfl Try.func43 (by kernel_rfl) rfl #[.int .i64 a1] rfl (by (try simp only [List.map_toArray, List.map_cons, List.map_nil]); first | done | rfl | (simp only [List.length_drop, List.length_take]; rfl)) ?_; (with_reducible refine (spec_l07Days.calls a1 true _ A5.out).mono ?_); rintro e w' ⟨rfl, ⟨nd, rfl⟩⟩; refine ⟨_, rfl, ?_⟩) | ((with_reducible refine gate_callee (f := 41) rfl ?_); refine goesL_ (some 17) rfl rfl Try.func41 (by kernel_rfl) rfl #[.slice A0 l0.length c0, .bool (decide (a2 ≥ 0))] rfl (by (try simp only [List.map_toArray, List.map_cons, List.map_nil]); first | done | rfl | (simp only [List.length_drop, List.length_take]; rfl)) ?_; (with_reducible refine (spec_l07Asked.calls k _ _ l0 (decide (a2 ≥ 0)) t351 _ ?side1 ?side2 A7.out).mono ?_); (case side1 => repeat (first | exact (Kd.C_below HR0.out (by repeat (first | (with_reducible first | exact HB.out | apply below_alloc | apply pw_below_drewN | apply below_drew1) | exact HB.out))) | (with_reducible refine Kd.C_alloc ?_ _) | (with_reducible refine Kd.C_drewN ?_ _) | (with_reducible refine Kd.C_drew ?_))); (case side2 => exact HC0.out); rintro e w8 ⟨rfl, hb⟩; refine ⟨_, rfl, ?_⟩; have n0_ := Aside0.mk (below_step (by repeat (first | (with_reducible first | exact HB.out | apply below_alloc | apply pw_below_drewN | apply below_drew1) | exact HB.out)) hb); clear HB; have HB := n0_; clear n0_; (try clear hb); (try clear hb2); (try clear hk); (try clear hi)))
   go_meet
   case rel => exact ⟨_, (t351), (by first | rfl | (simp; done) | (simp [*]; done)), H', ⟨by first | omega | exact Nat.le_refl _⟩, ⟨by repeat (first | (with_reducible first | exact HB.out | apply below_alloc | apply pw_below_drewN | apply below_drew1) | exact HB.out)⟩⟩
  ·replace c6 := Bool.eq_false_iff.mpr c6
   subst c6
   have H1 : ((spec_l07Asked.f k l0 false).bind fun t352 => (spec_HandsFor.j0 k l0 a1 a2 t352)) = some (r1, r2) := by rw [if_neg (show ¬ (false = true) by decide)] at H; exact H
   clear H
   have H := H1
   clear H1
   replace H := Option.bind_eq_some_iff.mp H
   obtain ⟨t352, A90, H⟩ := H
   replace H : (spec_HandsFor.j0 k l0 a1 a2 t352) = some (r1, r2) := H
   have A9 := Aside0.mk A90
   clear A90
   have H' := Aside0.mk H
   clear H
   go_wp2_with (first | ((with_reducible refine gate_callee (f := 43) rfl ?_); refine goesL_ (some 12) rfl rfl Try.func43 (by kernel_rfl) rfl #[.int .i64 a1] rfl (by (try simp only [List.map_toArray, List.map_cons, List.map_nil]); first | done | rfl | (simp only [List.length_drop, List.length_take]; rfl)) ?_; (with_reducible refine (spec_l07Days.calls a1 false _ A5.out).mono ?_); rintro e w' ⟨rfl, ⟨nd, rfl⟩⟩; refine ⟨_, rfl, ?_⟩) | ((with_reducible refine gate_callee (f := 41) rfl ?_); refine goesL_ (some 17) rfl rfl Try.func41 (by kernel_rfl) rfl #[.slice A0 l0.length c0, .bool false] rfl (by (try simp only [List.map_toArray, List.map_cons, List.map_nil]); first | done | rfl | (simp only [List.length_drop, List.length_take]; rfl)) ?_; (with_reducible refine (spec_l07Asked.calls k _ _ l0 false t352 _ ?side1 ?side2 A9.out).mono ?_); (case side1 => repeat (first | exact (Kd.C_below HR0.out (by repeat (first | (with_reducible first | exact HB.out | apply below_alloc | apply pw_below_drewN | apply below_drew1) | exact HB.out))) | (with_reducible refine Kd.C_alloc ?_ _) | (with_reducible refine Kd.C_drewN ?_ _) | (with_reducible refine Kd.C_drew ?_))); (case side2 => exact HC0.out); rintro e w10 ⟨rfl, hb⟩; refine ⟨_, rfl, ?_⟩; have n0_ := Aside0.mk (below_step (by repeat (first | (with_reducible first | exact HB.out | apply below_alloc | apply pw_below_drewN | apply below_drew1) | exact HB.out)) hb); clear HB; have HB := n0_; clear n0_; (try clear hb); (try clear hb2); (try clear hk); (try clear hi)))
   go_meet
   case rel => exact ⟨_, (t352), (by first | rfl | (simp; done) | (simp [*]; done)), H', ⟨by first | omega | exact Nat.le_refl _⟩, ⟨by repeat (first | (with_reducible first | exact HB.out | apply below_alloc | apply pw_below_drewN | apply below_drew1) | exact HB.out)⟩⟩
 case rest =>
  clear HC4
  try clear c2
  try clear p2
  try clear c4
  try clear c6
  obtain ⟨kq, x8_3, rfl, HA, HJ3, HB⟩ := hcut
  cases kq with
  | zero => exact absurd HA.out (by simp [spec_HandsFor.j0])
  | succ kj3 =>
   have H := HA.out
   clear HA
   simp only [spec_HandsFor.j0] at H
   by_cases c11 : x8_3 = 0
   ·rw [if_pos c11] at H
    have c11b0 : (x8_3 == 0) = true := beq_iff_eq.mpr c11
    have c11b1 : (x8_3 != 0) = false := bne_eq_false_iff_eq.mpr c11
    clear c11
    have H' := Aside0.mk H
    clear H
    go_wp2
    go_loopg [9] kj3 (fun kq v9 w' => ∃ (x9_2 : Int), v9 = .int .i64 x9_2 ∧ Aside0 (spec_HandsFor.l0 kq l0 a1 a2 x9_2 = some (r1, r2)) ∧ Aside0 (kq ≤ kj3) ∧ Aside0 (Below w.heap.size w w'))
    case atStart => exact ⟨(1), (by first | rfl | (simp; done) | (simp [*]; done)), H', ⟨Nat.le_refl _⟩, ⟨by repeat (first | (with_reducible first | exact HB.out | apply below_alloc | apply pw_below_drewN | apply below_drew1) | exact HB.out)⟩⟩
    case round =>
     clear H'
     try clear c1
     try clear c2
     try clear p2
     try clear c4
     try clear c6
     try clear c11
     try clear c11b0
     try clear c11b1
     try clear p2
     obtain ⟨x9_2, rfl, HA, HK2, HB⟩ := hrel
     cases gk with
     | zero => exact absurd HA.out (by simp [spec_HandsFor.l0])
     | succ k2 =>
      have H := HA.out
      clear HA
      simp only [spec_HandsFor.l0] at H
      by_cases c12 : x9_2 ≤ 3
      ·rw [if_pos c12] at H
       have c12b0 : decide (x9_2 ≤ 3) = true := decide_eq_true c12
       clear c12
       obtain ⟨y353, hy353⟩ : ∃ y_ : List Int, y_ = (([] : List Int)) := ⟨_, rfl⟩
       replace H : ((spec_l07Try.f l0 x9_2 a1 y353).bind fun t356 => (if t356 ≥ a2 then (some (x9_2, 0)) else (spec_HandsFor.l0 k2 l0 a1 a2 (wrap64 (x9_2 + 1))))) = some (r1, r2) := by first | (rw [hy353]; with_reducible exact H) | (have H2_ := (Option.bind_some _ _).symm.trans H; rw [hy353]; with_reducible exact H2_) | (have H2_ := (Option.bind_some _ _).symm.trans H; with_reducible exact H2_) | with_reducible exact H | (rw [hy353]; exact H) | exact H
       have Ny353 := Aside0.mk hy353
       clear hy353
       replace H := Option.bind_eq_some_iff.mp H
       obtain ⟨t356, A130, H⟩ := H
       replace H : (if t356 ≥ a2 then (some (x9_2, 0)) else (spec_HandsFor.l0 k2 l0 a1 a2 (wrap64 (x9_2 + 1)))) = some (r1, r2) := H
       have A13 := Aside0.mk A130
       clear A130
       by_cases c14 : t356 ≥ a2
       ·rw [if_pos c14] at H
        have c14b0 : decide (a2 ≤ t356) = true := decide_eq_true c14
        clear c14
        simp only [Option.some.injEq, Prod.mk.injEq] at H
        obtain ⟨rfl, rfl⟩ := H
        go_wp2_with (first | ((with_reducible refine gate_dst (N := 28) rfl ?_); refine Kd.R_lit (Kd.int .i64) _ 2 ?hg (N := 28) ?hd (xs := ([] : List Int)) (inner := []) (ok := fun _ => True) (okp := fun _ => True) ?hr ?hp (fun _ hk => hk) trivial (Below.refl _ _) (Nat.le_refl _) (by simp) ?_; (case hd => rfl); (case hg => rfl); (case hr => first | (go_simp; done) | (go_simp; rfl)); (case hp => exact (Reps.none _ _)); intro v354 w15 ho16 hb hg_ hnew_; clear hg_ hnew_; (first | rw [← Ny353.out] at ho16 | (simp only [Int.reduceToNat] at ho16; rw [← Ny353.out] at ho16)); have n0_ := Aside0.mk (Kd.R_lower ho16 (below_size (by repeat (first | (with_reducible first | exact HB.out | apply below_alloc | apply pw_below_drewN | apply below_drew1) | exact HB.out)))); have n1_ := Aside0.mk (below_step (by repeat (first | (with_reducible first | exact HB.out | apply below_alloc | apply pw_below_drewN | apply below_drew1) | exact HB.out)) hb); clear HB; have HO355 := n0_; have HB := n1_; clear n0_ n1_; clear hb ho16; obtain ⟨Ao17, co17, eo17⟩ := Kd.R_slice HO355.out; subst eo17) | ((with_reducible refine gate_callee (f := 46) rfl ?_); refine goesL_ (some 29) rfl rfl Try.func46 (by kernel_rfl) rfl #[.slice A0 l0.length c0, .int .i64 x9_2, .int .i64 a1, .slice Ao17 y353.length co17] rfl (by (try simp only [List.map_toArray, List.map_cons, List.map_nil]); first | done | rfl | (simp only [List.length_drop, List.length_take]; rfl)) ?_; (with_reducible refine (spec_l07Try.calls _ _ l0 x9_2 a1 _ _ y353 t356 _ ?side1 ?side2 ?side3 ?side4 A13.out).mono ?_); (case side1 => repeat (first | exact (Kd.C_below HR0.out HB.out) | (with_reducible refine Kd.C_alloc ?_ _) | (with_reducible refine Kd.C_drewN ?_ _) | (with_reducible refine Kd.C_drew ?_))); (case side2 => exact HC0.out); (case side3 => repeat (first | exact (Kd.R_reads' HO355.out).2.2 | (with_reducible refine Kd.C_alloc ?_ _) | (with_reducible refine Kd.C_drewN ?_ _) | (with_reducible refine Kd.C_drew ?_))); (case side4 => exact (Kd.R_reads' HO355.out).2.1); rintro e w18 ⟨rfl, hb⟩; refine ⟨_, rfl, ?_⟩; have n0_ := Aside0.mk (Kd.R_below (by (with_reducible repeat (first | apply Kd.R_alloc | apply Kd.R_drewN | apply Kd.R_drew)); exact HO355.out) hb); have n1_ := Aside0.mk (below_step (by repeat (first | (with_reducible first | exact HB.out | apply below_alloc | apply pw_below_drewN | apply below_drew1) | exact HB.out)) hb); clear HO355; clear HB; have HO355 := n0_; have HB := n1_; clear n0_ n1_; (try clear hb); (try clear hb2); (try clear hk); (try clear hi)))
        go_ret2
        exact ⟨by first | rfl | (simp [errW_none, errW_some] <;> rfl) | (simp [*, errW_none, errW_some] <;> rfl), by repeat (first | (with_reducible first | exact HB.out | apply below_alloc | apply pw_below_drewN | apply below_drew1) | exact HB.out)⟩
       ·rw [if_neg c14] at H
        have c14b0 : decide (a2 ≤ t356) = false := decide_eq_false c14
        clear c14
        have H' := Aside0.mk H
        clear H
        go_wp2_with (first | ((with_reducible refine gate_dst (N := 28) rfl ?_); refine Kd.R_lit (Kd.int .i64) _ 2 ?hg (N := 28) ?hd (xs := ([] : List Int)) (inner := []) (ok := fun _ => True) (okp := fun _ => True) ?hr ?hp (fun _ hk => hk) trivial (Below.refl _ _) (Nat.le_refl _) (by simp) ?_; (case hd => rfl); (case hg => rfl); (case hr => first | (go_simp; done) | (go_simp; rfl)); (case hp => exact (Reps.none _ _)); intro v354 w19 ho20 hb hg_ hnew_; clear hg_ hnew_; (first | rw [← Ny353.out] at ho20 | (simp only [Int.reduceToNat] at ho20; rw [← Ny353.out] at ho20)); have n0_ := Aside0.mk (Kd.R_lower ho20 (below_size (by repeat (first | (with_reducible first | exact HB.out | apply below_alloc | apply pw_below_drewN | apply below_drew1) | exact HB.out)))); have n1_ := Aside0.mk (below_step (by repeat (first | (with_reducible first | exact HB.out | apply below_alloc | apply pw_below_drewN | apply below_drew1) | exact HB.out)) hb); clear HB; have HO355 := n0_; have HB := n1_; clear n0_ n1_; clear hb ho20; obtain ⟨Ao21, co21, eo21⟩ := Kd.R_slice HO355.out; subst eo21) | ((with_reducible refine gate_callee (f := 46) rfl ?_); refine goesL_ (some 29) rfl rfl Try.func46 (by kernel_rfl) rfl #[.slice A0 l0.length c0, .int .i64 x9_2, .int .i64 a1, .slice Ao21 y353.length co21] rfl (by (try simp only [List.map_toArray, List.map_cons, List.map_nil]); first | done | rfl | (simp only [List.length_drop, List.length_take]; rfl)) ?_; (with_reducible refine (spec_l07Try.calls _ _ l0 x9_2 a1 _ _ y353 t356 _ ?side1 ?side2 ?side3 ?side4 A13.out).mono ?_); (case side1 => repeat (first | exact (Kd.C_below HR0.out HB.out) | (with_reducible refine Kd.C_alloc ?_ _) | (with_reducible refine Kd.C_drewN ?_ _) | (with_reducible refine Kd.C_drew ?_))); (case side2 => exact HC0.out); (case side3 => repeat (first | exact (Kd.R_reads' HO355.out).2.2 | (with_reducible refine Kd.C_alloc ?_ _) | (with_reducible refine Kd.C_drewN ?_ _) | (with_reducible refine Kd.C_drew ?_))); (case side4 => exact (Kd.R_reads' HO355.out).2.1); rintro e w22 ⟨rfl, hb⟩; refine ⟨_, rfl, ?_⟩; have n0_ := Aside0.mk (Kd.R_below (by (with_reducible repeat (first | apply Kd.R_alloc | apply Kd.R_drewN | apply Kd.R_drew)); exact HO355.out) hb); have n1_ := Aside0.mk (below_step (by repeat (first | (with_reducible first | exact HB.out | apply below_alloc | apply pw_below_drewN | apply below_drew1) | exact HB.out)) hb); clear HO355; clear HB; have HO355 := n0_; have HB := n1_; clear n0_ n1_; (try clear hb); (try clear hb2); (try clear hk); (try clear hi)))
        go_roundg k2
        case measure => have := HJ3.out; have := HK2.out; omega
        case rel => exact ⟨(wrap64 (x9_2 + 1)), (by first | rfl | (simp; done) | (simp [*]; done)), H', ⟨by have := HJ3.out; have := HK2.out; omega⟩, ⟨by repeat (first | (with_reducible first | exact HB.out | apply below_alloc | apply pw_below_drewN | apply below_drew1) | exact HB.out)⟩⟩
      ·rw [if_neg c12] at H
       have c12b0 : decide (x9_2 ≤ 3) = false := decide_eq_false c12
       clear c12
       simp only [Option.some.injEq, Prod.mk.injEq] at H
       obtain ⟨rfl, rfl⟩ := H
       go_wp2
       go_ret2
       exact ⟨by first | rfl | (simp [errW_none, errW_some] <;> rfl) | (simp [*, errW_none, errW_some] <;> rfl), by repeat (first | (with_reducible first | exact HB.out | apply below_alloc | apply pw_below_drewN | apply below_drew1) | exact HB.out)⟩
   ·rw [if_neg c11] at H
    have c11b0 : (x8_3 == 0) = false := beq_eq_false_iff_ne.mpr c11
    have c11b1 : (x8_3 != 0) = true := bne_iff_ne.mpr c11
    simp only [Option.some.injEq, Prod.mk.injEq] at H
    obtain ⟨rfl, rfl⟩ := H
    go_wp2
    go_ret2
    exact ⟨by first | rfl | (simp [errW_none, errW_some] <;> rfl) | (simp [*, errW_none, errW_some] <;> rfl), by repeat (first | (with_reducible first | exact HB.out | apply below_alloc | apply pw_below_drewN | apply below_drew1) | exact HB.out)⟩

end Go.Proofs.Ytokeeplkbgdokaa.Pq

/- What the program's and the reference's functions on plots answer. Plain lemmas. -/
namespace Go.Proofs.Ytokeeplkbgdokaa
open Go Go.RowKit Go.Proofs.YtokeeplkbgdokaaW.PrintWords Go.Proofs.YtokeeplkbgdokaaW.PrintMore Go.Proofs.Ytokeeplkbgdokaa.Pq
set_option linter.unusedVariables false

theorem plOk_wf (l : List S40) (hok : ∀ x ∈ l, plotOk x = true) : ∀ x ∈ l, plWf x := by
  intro x hx
  have := hok x hx
  rw [plotOk_iff] at this
  obtain ⟨_, _, _, _, _, _, _, _⟩ := this
  exact ⟨⟨by omega, by omega⟩, ⟨by omega, by omega⟩, ⟨by omega, by omega⟩, by omega, by omega⟩
theorem ev_const {α : Type} {v : Option α} {r : α} (h : v = some r) : Ev (fun _ => v) r := ⟨0, fun _ _ => h⟩
section
variable (l : List S40) (hok : ∀ x ∈ l, plotOk x = true) (hl : l.length ≤ 6)
include hok hl
theorem vplots_ev : Ev (fun k => impl_ValidPlots.f k l) true := by
  refine ⟨l.length + 1, fun k hk => ?_⟩
  show impl_ValidPlots.f k l = some true
  rw [plots_f l (by omega) (plOk_wf l hok) k (by omega)]
  have : l.all plotOk = true := by rw [List.all_eq_true]; exact hok
  rw [this, decide_eq_true hl]
  rfl
theorem code_ev (b : Bool) : Ev (fun k => impl_plotsCode.f k l b) (if b = true then 0 else 2) := by
  refine Ev.congr (f := fun k => (impl_ValidPlots.f k l).bind (fun t => if t = true then (if b = true then some 0 else some 2) else some 1)) (fun k => rfl) ?_
  refine Ev.bind (f := fun _ t => if t = true then (if b = true then some 0 else some 2) else some 1) (vplots_ev l hok hl) ?_
  cases b <;> exact ev_const rfl
omit hl in
theorem splot_ev (x : S40) (hx : x ∈ l) : Ev (fun k => spec_l07Plot.f k x.f0 x.f1 x.f2 x.f3) true := by
  have := hok x hx
  rw [plotOk_iff] at this
  obtain ⟨_, _, _, _, _, _, _, _⟩ := this
  have e0 : wrap64 x.f0 = x.f0 := by unfold wrap64; omega
  have e1 : wrap64 x.f1 = x.f1 := by unfold wrap64; omega
  have e2 : wrap64 x.f2 = x.f2 := by unfold wrap64; omega
  have e3 : wrap64 x.f3 = x.f3 := by unfold wrap64; omega
  refine ⟨2, fun k hk => ?_⟩
  obtain ⟨k, rfl⟩ : ∃ m, k = m + 1 := ⟨k - 1, by omega⟩
  simp only [spec_l07Plot.f, spec_l01Seeds.f, e0, e3, spec_in_f, Option.bind_some]
  rw [decide_eq_true (by omega), if_pos rfl, decide_eq_true (by omega)]
  rw [spec_l07Plot.j0, if_neg (by simp), e1, e2, spec_in_f, spec_in_f]
  simp only [Option.bind_some]
  rw [decide_eq_true (by omega), if_pos rfl, decide_eq_true (by omega)]
theorem sok_ev : Ev (fun k => spec_l07Ok.f k l) true := by
  have key : ∀ j i : Nat, i ≤ l.length → l.length - i = j → Ev (fun k => spec_l07Ok.l0 k l (i : Int)) true := by
    intro j
    induction j with
    | zero =>
      intro i hi hj
      refine Ev.step (f := fun _ => some true) (fun k => ?_) (Ev.now _)
      rw [spec_l07Ok.l0, if_neg (by omega), decide_eq_true (by omega)]
    | succ j ih =>
      intro i hi hj
      have hlt : i < l.length := by omega
      have hb := Ev.bind (f := fun k t => if t = true then spec_l07Ok.l0 k l (wrap64 ((i : Int) + 1)) else some false) (splot_ev l hok l[i] (List.getElem_mem hlt)) (r := true) (by
        refine Ev.congr (fun k => ?_) (ih (i + 1) (by omega) (by omega))
        rw [if_pos rfl, wrap_nat i (by omega)])
      refine Ev.step (fun k => ?_) hb
      rw [spec_l07Ok.l0, if_pos (by omega), if_pos (by omega), pl_rd l i hlt]
  exact key l.length 0 (Nat.zero_le _) (by omega)
theorem asked_ev (b : Bool) : Ev (fun k => spec_l07Asked.f k l b) (if b = true then 0 else 2) := by
  refine Ev.congr (f := fun k => (spec_l07Ok.f k l).bind (fun t => if t = true then (if b = true then some 0 else some 2) else some 1)) (fun k => rfl) ?_
  refine Ev.bind (f := fun _ t => if t = true then (if b = true then some 0 else some 2) else some 1) (sok_ev l hok hl) ?_
  cases b <;> exact ev_const rfl
end
theorem hands_f (h : Int) (h1 : 1 ≤ h ∧ h ≤ 3) : impl_areHands.f h = some true ∧ spec_l07Hands.f h = some true := by
  simp only [impl_areHands.f, spec_l07Hands.f, pl_within, spec_in_f, Option.bind_some, decide_eq_true h1, and_self]
theorem days_f (D : Nat) (h1 : 1 ≤ D ∧ D ≤ 20) : impl_areDays.f (D : Int) = some true ∧ spec_l07Days.f (D : Int) = some true := by
  have : (1 : Int) ≤ (D : Int) ∧ (D : Int) ≤ 20 := by omega
  simp only [impl_areDays.f, spec_l07Days.f, pl_within, spec_in_f, Option.bind_some, decide_eq_true this, and_self]
section
variable (l : List S40) (h : Int) (D : Nat) (hok : ∀ x ∈ l, plotOk x = true) (hl : l.length ≤ 6) (hh : 1 ≤ h ∧ h ≤ 3) (hD : 1 ≤ D ∧ D ≤ 20)
include hok hl hh hD
theorem game_ev : Ev (fun k => spec_l07Game.f k l h D) 0 := by
  refine Ev.congr (f := fun k => (spec_l07Asked.f k l true).bind (fun t => some t)) (fun k => ?_) ?_
  · unfold spec_l07Game.f
    rw [(hands_f h hh).2]
    simp only [Option.bind_some, if_true]
    rw [(days_f D hD).2]
    rfl
  · exact Ev.bind (f := fun _ t => some t) (asked_ev l hok hl true) (Ev.now _)
/-- Both best plans. -/
theorem bestPlans : ∃ p, okPlan h D p ∧ p.length = l.length ∧ planSum l p = tryV l h D [] ∧ Ev (fun k => impl_BestPlan.f k l h D) (p, tryV l h D [], 0) ∧ Ev (fun k => spec_BestPlan.f k l h D) (p, tryV l h D [], 0) := by
  obtain ⟨p, h1, h2, h3, h4, h5⟩ := best_both l h D hok hl (by omega) hh.2 hD.2
  refine ⟨p, h2, h3, h4, ?_, ?_⟩
  · refine Ev.congr (f := fun k => (impl_plotsCode.f k l true).bind (fun t => if t = 0 then ((impl_bestPlan.f k l h D).bind fun bt => some (bt.1, bt.2, 0)) else some (([] : List Int), 0, t))) (fun k => ?_) ?_
    · unfold impl_BestPlan.f
      rw [(hands_f h hh).1]
      simp only [Option.bind_some, if_true]
      rw [(days_f D hD).1]
      rfl
    · refine Ev.bind (f := fun k t => if t = 0 then ((impl_bestPlan.f k l h D).bind fun bt => some (bt.1, bt.2, 0)) else some (([] : List Int), 0, t)) (code_ev l hok hl true) ?_
      exact Ev.bind (f := fun _ bt => some (bt.1, bt.2, (0 : Int))) h5 (Ev.now _)
  · refine Ev.congr (f := fun k => (spec_l07Game.f k l h D).bind (fun t => if t = 0 then ((spec_l07Planned.f l h D).bind fun t246 => ((spec_l07Sum.f k l t246).bind fun t249 => some (t246, t249, 0))) else some (([] : List Int), 0, t))) (fun k => rfl) ?_
    refine Ev.bind (f := fun k t => if t = 0 then ((spec_l07Planned.f l h D).bind fun t246 => ((spec_l07Sum.f k l t246).bind fun t249 => some (t246, t249, 0))) else some (([] : List Int), 0, t)) (game_ev l h D hok hl hh hD) ?_
    refine ⟨p.length + 1, fun k hk => ?_⟩
    show (if (0 : Int) = 0 then _ else _) = _
    rw [if_pos rfl, h1]
    simp only [Option.bind_some]
    rw [spec_sum_f l hok p (fun d hd => by have := h2.1 d hd; omega) (by omega) hl k (by omega), h4]
    rfl
end
/-! The greedy plan. -/
def gPick (l : List S40) (p : List Int) (d : Int) : Nat → Int × Int
  | 0 => (-1, 0)
  | i + 1 => if p.getD i 0 < 0 ∧ pw (l.getD i z40) d > (gPick l p d i).2 then ((i : Int), pw (l.getD i z40) d) else gPick l p d i
def gHand (l : List S40) (d : Int) (p : List Int) : List Int := if 0 ≤ (gPick l p d l.length).1 then p.set (gPick l p d l.length).1.toNat d else p
def gDay (l : List S40) (d : Int) (p : List Int) : Nat → List Int
  | 0 => p
  | c + 1 => gHand l d (gDay l d p c)
def gAll (l : List S40) (h : Nat) : Nat → List Int
  | 0 => List.replicate l.length (-1)
  | d + 1 => gDay l (d : Int) (gAll l h d) h
theorem gPick_at (l p) (d : Int) (n : Nat) : (gPick l p d n).1 = -1 ∨ ∃ i : Nat, i < n ∧ (gPick l p d n).1 = (i : Int) ∧ p.getD i 0 < 0 := by
  induction n with
  | zero => exact .inl rfl
  | succ n ih =>
    rw [gPick]
    split
    · rename_i hc
      exact .inr ⟨n, by omega, rfl, hc.1⟩
    · rcases ih with ih | ⟨i, h1, h2⟩
      · exact .inl ih
      · exact .inr ⟨i, by omega, h2⟩
/-- A plan so far: before a day, c plots on it. -/
def gOk (l : List S40) (h d c : Nat) (p : List Int) : Prop :=
  p.length = l.length ∧ (∀ x ∈ p, x = -1 ∨ (0 ≤ x ∧ x ≤ (d : Int))) ∧ (∀ e : Nat, e < d → dayCount p e ≤ h) ∧ dayCount p d ≤ c
theorem gHand_ok (l h d c p) (hp : gOk l h d c p) : gOk l h d (c + 1) (gHand l (d : Int) p) := by
  obtain ⟨h1, h2, h3, h4⟩ := hp
  unfold gHand
  split
  · rename_i hc
    rcases gPick_at l p (d : Int) l.length with g | ⟨i, g1, g2, g3⟩
    · rw [g] at hc; exact absurd hc (by decide)
    · rw [g2, Int.toNat_natCast]
      have hi : i < p.length := by omega
      rw [pl_getD p _ hi] at g3
      have hpi : p[i] = -1 := by
        have := h2 p[i] (List.getElem_mem hi)
        omega
      have hcount : ∀ e : Nat, dayCount (p.set i (d : Int)) e = dayCount p e + if e = d then 1 else 0 := by
        intro e
        unfold dayCount
        rw [List.count_set hi, hpi]
        by_cases hed : e = d
        · subst hed
          have : ((-1 : Int) == (e : Int)) = false := beq_eq_false_iff_ne.2 (by omega)
          simp [this]
        · have e1 : ((-1 : Int) == (e : Int)) = false := beq_eq_false_iff_ne.2 (by omega)
          have e2 : ((d : Int) == (e : Int)) = false := beq_eq_false_iff_ne.2 (by omega)
          simp [e1, e2, hed]
      refine ⟨by rw [List.length_set]; exact h1, fun x hx => ?_, fun e he => ?_, ?_⟩
      · rcases List.mem_or_eq_of_mem_set hx with hx | rfl
        · exact h2 x hx
        · right; omega
      · rw [hcount e, if_neg (by omega)]
        have := h3 e he
        omega
      · rw [hcount d, if_pos rfl]
        omega
  · exact ⟨h1, h2, h3, by omega⟩
theorem gDay_ok (l h d p) (hp : gOk l h d 0 p) (c : Nat) : gOk l h d c (gDay l (d : Int) p c) := by
  induction c with
  | zero => exact hp
  | succ c ih => exact gHand_ok l h d c _ ih
theorem gAll_ok (l) (h d : Nat) : gOk l h d 0 (gAll l h d) := by
  induction d with
  | zero =>
    refine ⟨by simp [gAll], fun x hx => .inl (List.eq_of_mem_replicate hx), fun e he => by omega, ?_⟩
    unfold dayCount gAll
    rw [List.count_replicate]
    simp
  | succ d ih =>
    obtain ⟨h1, h2, h3, h4⟩ := gDay_ok l h d _ ih h
    refine ⟨h1, fun x hx => ?_, fun e he => ?_, ?_⟩
    · rcases h2 x hx with g | g
      · exact .inl g
      · right; omega
    · rcases Nat.lt_succ_iff_lt_or_eq.1 he with g | rfl
      · exact h3 e g
      · exact h4
    · unfold dayCount
      rw [List.count_eq_zero.2]
      · simp
      · intro hm
        rcases h2 _ hm with g | g <;> omega
theorem gAll_plan (l) (h D : Nat) : okPlan h D (gAll l h D) ∧ (gAll l h D).length = l.length := by
  obtain ⟨h1, h2, h3, h4⟩ := gAll_ok l h D
  refine ⟨⟨fun x hx => ?_, fun d hd => h3 d hd⟩, h1⟩
  rcases h2 x hx with g | g
  · omega
  · refine ⟨by omega, ?_⟩
    rcases Int.lt_or_eq_of_le g.2 with g2 | g2
    · exact g2
    · exfalso
      subst g2
      have : 0 < (gAll l h D).count (D : Int) := List.count_pos_iff.2 hx
      unfold dayCount at h4
      omega
theorem getD_plots (l : List S40) (i : Nat) (h : i < l.length) : l.getD i z40 = l[i] := pl_getD l _ h
section
variable (l : List S40) (h D : Nat) (hok : ∀ x ∈ l, plotOk x = true) (hl : l.length ≤ 6) (hh : 1 ≤ h ∧ h ≤ 3) (hD : 1 ≤ D ∧ D ≤ 20)
include hok hl hh hD
omit hh in
theorem ig3 {r : List Int × Int × Int} (p : List Int) (hp : p.length = l.length) (d c : Nat) (hd : d < D)
    (hk : Ev (fun k => impl_GreedyPlan.l2 k l h (gHand l (d : Int) p) (d : Int) D d h (wrap64 ((c : Int) + 1))) r) (j : Nat) : ∀ i, i ≤ l.length → l.length - i = j →
    Ev (fun k => impl_GreedyPlan.l3 k l h p (d : Int) (gPick l p (d : Int) i).1 (gPick l p (d : Int) i).2 D d h (c : Int) l (l.length : Int) (i : Int)) r := by
  induction j with
  | zero =>
    intro i hi hj
    obtain rfl : i = l.length := by omega
    refine Ev.step (fun k => ?_) hk
    rw [impl_GreedyPlan.l3, if_neg (by omega)]
    unfold gHand
    by_cases hc : 0 ≤ (gPick l p (d : Int) l.length).1
    · rw [if_pos hc, if_pos hc, if_pos hc]
      rcases gPick_at l p (d : Int) l.length with g | ⟨i, g1, g2, _⟩
      · omega
      · rw [if_pos (by omega)]
    · rw [if_neg hc, if_neg hc]
  | succ j ih =>
    intro i hi hj
    have hlt : i < l.length := by omega
    refine Ev.step (fun k => ?_) (ih (i + 1) (by omega) (by omega))
    rw [impl_GreedyPlan.l3, if_pos (by omega), if_pos (by omega), if_pos (by omega), pl_rd l i hlt, impl_worth_f _ _ (hok _ (List.getElem_mem hlt)) (by omega) (by omega)]
    simp only [Option.bind_some]
    rw [if_pos (by omega), rd_nat, wrap_nat i (by omega), gPick, getD_plots l i hlt]
    by_cases h1 : p.getD i 0 < 0
    · rw [if_pos h1]
      by_cases h2 : pw l[i] d > (gPick l p (d : Int) i).2
      · rw [if_pos h2, if_pos ⟨h1, h2⟩]
      · rw [if_neg h2, if_neg (fun e => h2 e.2)]
    · rw [if_neg h1, if_neg (fun e => h1 e.1)]
omit hh in
theorem sg3 {r : List Int × Int × Int} (p : List Int) (hp : p.length = l.length) (d c : Nat) (hd : d < D)
    (hk : Ev (fun k => spec_GreedyPlan.l2 k l h D (gHand l (d : Int) p) (d : Int) (wrap64 ((c : Int) + 1))) r) (j : Nat) : ∀ i, i ≤ l.length → l.length - i = j →
    Ev (fun k => spec_GreedyPlan.l3 k l h D p (d : Int) (c : Int) (gPick l p (d : Int) i).1 (gPick l p (d : Int) i).2 (i : Int)) r := by
  induction j with
  | zero =>
    intro i hi hj
    obtain rfl : i = l.length := by omega
    refine Ev.step (fun k => ?_) hk
    rw [spec_GreedyPlan.l3, if_neg (by omega)]
    unfold gHand
    by_cases hc : 0 ≤ (gPick l p (d : Int) l.length).1
    · rw [if_pos hc, if_pos hc, if_pos hc]
      rcases gPick_at l p (d : Int) l.length with g | ⟨i, g1, g2, _⟩
      · omega
      · rw [if_pos (by omega)]
    · rw [if_neg hc, if_neg hc]
  | succ j ih =>
    intro i hi hj
    have hlt : i < l.length := by omega
    refine Ev.step (fun k => ?_) (ih (i + 1) (by omega) (by omega))
    rw [spec_GreedyPlan.l3, if_pos (by omega), if_pos (by omega), pl_rd l i hlt, spec_worth_f _ _ (hok _ (List.getElem_mem hlt)) (by omega) (by omega)]
    simp only [Option.bind_some]
    rw [if_pos (by omega), rd_nat, wrap_nat i (by omega), gPick, getD_plots l i hlt]
    by_cases h1 : p.getD i 0 < 0
    · rw [if_pos h1]
      by_cases h2 : pw l[i] d > (gPick l p (d : Int) i).2
      · rw [if_pos h2, if_pos ⟨h1, h2⟩]
      · rw [if_neg h2, if_neg (fun e => h2 e.2)]
    · rw [if_neg h1, if_neg (fun e => h1 e.1)]
omit hok hl hh hD in
theorem gHand_length (d : Int) (p : List Int) : (gHand l d p).length = p.length := by
  unfold gHand
  split
  · rw [List.length_set]
  · rfl
omit hok hl hh hD in
theorem gDay_length (d : Int) (p : List Int) (c : Nat) : (gDay l d p c).length = p.length := by
  induction c with
  | zero => rfl
  | succ c ih => rw [gDay, gHand_length, ih]
theorem ig2 {r : List Int × Int × Int} (p : List Int) (hp : p.length = l.length) (d : Nat) (hd : d < D)
    (hk : Ev (fun k => impl_GreedyPlan.l1 k l h (gDay l (d : Int) p h) D (wrap64 ((d : Int) + 1))) r) (j : Nat) : ∀ c, c ≤ h → h - c = j →
    Ev (fun k => impl_GreedyPlan.l2 k l h (gDay l (d : Int) p c) (d : Int) D d h (c : Int)) r := by
  induction j with
  | zero =>
    intro c hc hj
    obtain rfl : c = h := by omega
    refine Ev.step (fun k => ?_) hk
    rw [impl_GreedyPlan.l2, if_neg (by omega)]
  | succ j ih =>
    intro c hc hj
    have h3 := ig3 l h D hok hl hD (gDay l (d : Int) p c) (by rw [gDay_length]; exact hp) d c hd (r := r) (by
      rw [wrap_nat c (by omega)]
      exact ih (c + 1) (by omega) (by omega)) l.length 0 (Nat.zero_le _) (by omega)
    refine Ev.step (fun k => ?_) h3
    rw [impl_GreedyPlan.l2, if_pos (by omega)]
    rfl
theorem sg2 {r : List Int × Int × Int} (p : List Int) (hp : p.length = l.length) (d : Nat) (hd : d < D)
    (hk : Ev (fun k => spec_GreedyPlan.l1 k l h D (gDay l (d : Int) p h) (wrap64 ((d : Int) + 1))) r) (j : Nat) : ∀ c, c ≤ h → h - c = j →
    Ev (fun k => spec_GreedyPlan.l2 k l h D (gDay l (d : Int) p c) (d : Int) (c : Int)) r := by
  induction j with
  | zero =>
    intro c hc hj
    obtain rfl : c = h := by omega
    refine Ev.step (fun k => ?_) hk
    rw [spec_GreedyPlan.l2, if_neg (by omega)]
  | succ j ih =>
    intro c hc hj
    have h3 := sg3 l h D hok hl hD (gDay l (d : Int) p c) (by rw [gDay_length]; exact hp) d c hd (r := r) (by
      rw [wrap_nat c (by omega)]
      exact ih (c + 1) (by omega) (by omega)) l.length 0 (Nat.zero_le _) (by omega)
    refine Ev.step (fun k => ?_) h3
    rw [spec_GreedyPlan.l2, if_pos (by omega)]
    rfl
theorem ig1 (j : Nat) : ∀ d, d ≤ D → D - d = j → Ev (fun k => impl_GreedyPlan.l1 k l h (gAll l h d) D (d : Int)) (gAll l h D, planSum l (gAll l h D), 0) := by
  obtain ⟨⟨g1, _⟩, g2⟩ := gAll_plan l h D
  have g1 : ∀ d ∈ gAll l h D, -1 ≤ d ∧ d ≤ 19 := fun d hd => by have := g1 d hd; omega
  induction j with
  | zero =>
    intro d hd hj
    obtain rfl : d = D := by omega
    have hw := worthsL_length l (gAll l h d) g2
    refine Ev.step (f := fun k => (impl_worths.f k l (gAll l h d)).bind fun t => (impl_total.f k t).bind fun t2 => some (gAll l h d, t2, 0)) (fun k => ?_) ?_
    · rw [impl_GreedyPlan.l1, if_neg (by omega)]
    · refine Ev.bind (f := fun k t => (impl_total.f k t).bind fun t2 => some (gAll l h d, t2, (0 : Int))) (a := worthsL l (gAll l h d)) ⟨l.length + 1, fun k hk => worths_f l hok _ g1 g2 hl k (by omega)⟩ ?_
      refine Ev.bind (f := fun _ t2 => some (gAll l h d, t2, (0 : Int))) (a := planSum l (gAll l h d)) ⟨l.length + 1, fun k hk => ?_⟩ (Ev.now _)
      show impl_total.f k _ = _
      rw [total_f _ (worthsL_bound l hok _) (by omega) k (by omega), worthsL_sum]
  | succ j ih =>
    intro d hd hj
    have h2 := ig2 l h D hok hl hh hD (gAll l h d) (gAll_plan l h d).2 d (by omega) (r := (gAll l h D, planSum l (gAll l h D), 0)) (by
      rw [wrap_nat d (by omega)]
      exact ih (d + 1) (by omega) (by omega)) h 0 (Nat.zero_le _) (by omega)
    refine Ev.step (fun k => ?_) h2
    rw [impl_GreedyPlan.l1, if_pos (by omega)]
    rfl
theorem sg1 (j : Nat) : ∀ d, d ≤ D → D - d = j → Ev (fun k => spec_GreedyPlan.l1 k l h D (gAll l h d) (d : Int)) (gAll l h D, planSum l (gAll l h D), 0) := by
  obtain ⟨⟨g1, _⟩, g2⟩ := gAll_plan l h D
  have g1 : ∀ d ∈ gAll l h D, -1 ≤ d ∧ d ≤ 19 := fun d hd => by have := g1 d hd; omega
  induction j with
  | zero =>
    intro d hd hj
    obtain rfl : d = D := by omega
    refine Ev.step (f := fun k => (spec_l07Sum.f k l (gAll l h d)).bind fun t2 => some (gAll l h d, t2, 0)) (fun k => ?_) ?_
    · rw [spec_GreedyPlan.l1, if_neg (by omega)]
    · refine Ev.bind (f := fun _ t2 => some (gAll l h d, t2, (0 : Int))) (a := planSum l (gAll l h d)) ⟨l.length + 1, fun k hk => ?_⟩ (Ev.now _)
      exact spec_sum_f l hok _ g1 (by omega) hl k (by omega)
  | succ j ih =>
    intro d hd hj
    have h2 := sg2 l h D hok hl hh hD (gAll l h d) (gAll_plan l h d).2 d (by omega) (r := (gAll l h D, planSum l (gAll l h D), 0)) (by
      rw [wrap_nat d (by omega)]
      exact ih (d + 1) (by omega) (by omega)) h 0 (Nat.zero_le _) (by omega)
    refine Ev.step (fun k => ?_) h2
    rw [spec_GreedyPlan.l1, if_pos (by omega)]
    rfl
theorem greedyPlans : Ev (fun k => impl_GreedyPlan.f k l h D) (gAll l h D, planSum l (gAll l h D), 0) ∧ Ev (fun k => spec_GreedyPlan.f k l h D) (gAll l h D, planSum l (gAll l h D), 0) := by
  constructor
  · have key : ∀ j i : Nat, i ≤ l.length → l.length - i = j → Ev (fun k => impl_GreedyPlan.l0 k l h D (List.replicate i (-1)) (l.length : Int) (i : Int)) (gAll l h D, planSum l (gAll l h D), 0) := by
      intro j
      induction j with
      | zero =>
        intro i hi hj
        obtain rfl : i = l.length := by omega
        refine Ev.step (fun k => ?_) (ig1 l h D hok hl hh hD D 0 (Nat.zero_le _) (by omega))
        rw [impl_GreedyPlan.l0, if_neg (by omega)]
        rfl
      | succ j ih =>
        intro i hi hj
        refine Ev.step (fun k => ?_) (ih (i + 1) (by omega) (by omega))
        rw [impl_GreedyPlan.l0, if_pos (by omega), if_pos (by simp; omega), wrap_nat i (by omega), List.replicate_succ']
    refine Ev.congr (f := fun k => (impl_plotsCode.f k l true).bind (fun t => impl_GreedyPlan.j0 k l h D t)) (fun k => ?_) ?_
    · unfold impl_GreedyPlan.f
      rw [(hands_f h (by omega)).1]
      simp only [Option.bind_some, if_true]
      rw [(days_f D hD).1]
      rfl
    · refine Ev.bind (f := fun k t => impl_GreedyPlan.j0 k l h D t) (code_ev l hok hl true) ?_
      refine Ev.step (fun k => ?_) (key l.length 0 (Nat.zero_le _) (by omega))
      rw [impl_GreedyPlan.j0, if_pos rfl, if_pos rfl]
      rfl
  · have key : ∀ j i : Nat, i ≤ l.length → l.length - i = j → Ev (fun k => spec_GreedyPlan.l0 k l h D (List.replicate i (-1)) (i : Int)) (gAll l h D, planSum l (gAll l h D), 0) := by
      intro j
      induction j with
      | zero =>
        intro i hi hj
        obtain rfl : i = l.length := by omega
        refine Ev.step (fun k => ?_) (sg1 l h D hok hl hh hD D 0 (Nat.zero_le _) (by omega))
        rw [spec_GreedyPlan.l0, if_neg (by omega)]
        rfl
      | succ j ih =>
        intro i hi hj
        refine Ev.step (fun k => ?_) (ih (i + 1) (by omega) (by omega))
        rw [spec_GreedyPlan.l0, if_pos (by omega), if_pos (by simp; omega), wrap_nat i (by omega), List.replicate_succ']
    refine Ev.congr (f := fun k => (spec_l07Game.f k l h D).bind (fun t => if t = 0 then spec_GreedyPlan.l0 k l h D (([] : List Int)) 0 else some (([] : List Int), 0, t))) (fun k => rfl) ?_
    refine Ev.bind (f := fun k t => if t = 0 then spec_GreedyPlan.l0 k l h D (([] : List Int)) 0 else some (([] : List Int), 0, t)) (game_ev l h D hok hl (by omega) hD) ?_
    refine Ev.congr (fun k => ?_) (key l.length 0 (Nat.zero_le _) (by omega))
    show (if (0 : Int) = 0 then _ else _) = _
    rw [if_pos rfl]
    rfl
end
end Go.Proofs.Ytokeeplkbgdokaa

/- Bounds, days, losses and hands: what the functions on plots answer. Plain lemmas. -/
namespace Go.Proofs.Ytokeeplkbgdokaa
open Go Go.RowKit Go.Proofs.YtokeeplkbgdokaaW.PrintWords Go.Proofs.YtokeeplkbgdokaaW.PrintMore Go.Proofs.Ytokeeplkbgdokaa.Pq
set_option linter.unusedVariables false

/-- The first day of the first d that is worth most, and its worth. -/
def bPick (x : S40) : Nat → Int × Int
  | 0 => (0, pw x 0)
  | d + 1 => if pw x d > (bPick x d).2 then ((d : Int), pw x d) else bPick x d
theorem bPick_worth (x) (d : Nat) : pw x (bPick x d).1 = (bPick x d).2 := by
  induction d with
  | zero => rfl
  | succ d ih => rw [bPick]; split; rfl; exact ih
theorem bPick_le (x) (d e : Nat) (h : e < d) : pw x e ≤ (bPick x d).2 := by
  induction d with
  | zero => omega
  | succ d ih =>
    rw [bPick]
    rcases Nat.lt_succ_iff_lt_or_eq.1 h with h1 | rfl
    · have := ih h1
      split
      · show pw x e ≤ pw x d; omega
      · exact this
    · split
      · exact Int.le_refl _
      · omega
theorem bPick_one (x) : bPick x 1 = (0, pw x 0) := by
  rw [bPick, if_neg (by show ¬ pw x 0 > pw x 0; omega)]; rfl
theorem bPick_range (x) (d : Nat) : 0 ≤ (bPick x d).1 ∧ ((bPick x d).1 = 0 ∨ (bPick x d).1 < (d : Int)) := by
  induction d with
  | zero => exact ⟨Int.le_refl _, .inl rfl⟩
  | succ d ih =>
    rw [bPick]
    split
    · exact ⟨by show (0 : Int) ≤ d; omega, .inr (by show (d : Int) < _; omega)⟩
    · refine ⟨ih.1, ?_⟩
      rcases ih.2 with h | h
      · exact .inl h
      · right; omega
theorem ibest_ev (x : S40) (hx : plotOk x = true) (D : Nat) (hD : D ≤ 20) : Ev (fun k => impl_Plot_best.f k x.f0 x.f1 x.f2 x.f3 D) (bPick x D) := by
  have key : ∀ j d : Nat, d ≤ D → D - d = j → Ev (fun k => impl_Plot_best.l0 k (bPick x d).1 (bPick x d).2 D (d : Int) x.f0 x.f1 x.f2 x.f3) (bPick x D) := by
    intro j
    induction j with
    | zero =>
      intro d hd hj
      obtain rfl : d = D := by omega
      refine Ev.step (fun k => ?_) (Ev.now _)
      rw [impl_Plot_best.l0, if_neg (by omega)]
    | succ j ih =>
      intro d hd hj
      refine Ev.step (fun k => ?_) (ih (d + 1) (by omega) (by omega))
      rw [impl_Plot_best.l0, if_pos (by omega), impl_worth_f x d hx (by omega) (by omega)]
      simp only [Option.bind_some]
      rw [wrap_nat d (by omega), bPick]
      split <;> rfl
  refine Ev.congr (fun k => ?_) (key D 0 (Nat.zero_le _) (by omega))
  unfold impl_Plot_best.f
  rw [impl_worth_f x 0 hx (by omega) (by omega)]
  rfl
theorem sbest_ev (x : S40) (hx : plotOk x = true) (D : Nat) (h1 : 1 ≤ D) (hD : D ≤ 20) : Ev (fun k => spec_l07Best.f k x.f0 x.f1 x.f2 x.f3 D) (bPick x D) := by
  have key : ∀ j d : Nat, 1 ≤ d → d ≤ D → D - d = j → Ev (fun k => spec_l07Best.l0 k D (bPick x d).1 (d : Int) x.f0 x.f1 x.f2 x.f3) (bPick x D) := by
    intro j
    induction j with
    | zero =>
      intro d h1 hd hj
      obtain rfl : d = D := by omega
      have hr := bPick_range x d
      refine Ev.step (fun k => ?_) (Ev.now _)
      rw [spec_l07Best.l0, if_neg (by omega), spec_worth_f x _ hx (by omega) (by omega)]
      simp only [Option.bind_some]
      rw [bPick_worth]
    | succ j ih =>
      intro d h1 hd hj
      have hr := bPick_range x d
      refine Ev.step (fun k => ?_) (ih (d + 1) (by omega) (by omega) (by omega))
      rw [spec_l07Best.l0, if_pos (by omega), spec_worth_f x d hx (by omega) (by omega), spec_worth_f x _ hx (by omega) (by omega)]
      simp only [Option.bind_some]
      rw [wrap_nat d (by omega), bPick, bPick_worth]
      split <;> rfl
  refine Ev.congr (fun k => ?_) (key (D - 1) 1 (Nat.le_refl _) h1 rfl)
  unfold spec_l07Best.f
  rw [bPick_one]
  rfl
/-- The sum of the best worths. -/
def bound (l : List S40) (D : Nat) : Int := (l.map fun x => (bPick x D).2).sum
theorem bPick_bound (x) (hx : plotOk x = true) (D : Nat) : 0 ≤ (bPick x D).2 ∧ (bPick x D).2 ≤ 1000 := by
  rw [← bPick_worth]
  exact ⟨pw_nonneg x _, pw_le x _ hx⟩
theorem planSum_le_bound (l : List S40) (hok : ∀ x ∈ l, plotOk x = true) (D : Nat) (p : List Int) (hp : ∀ d ∈ p, -1 ≤ d ∧ d < (D : Int)) : planSum l p ≤ bound l D := by
  induction l generalizing p with
  | nil => cases p <;> simp [planSum, bound]
  | cons x l ih =>
    have hb := bPick_bound x (hok x (by simp)) D
    have hrest : 0 ≤ bound l D := by
      have := ih (fun y hy => hok y (by simp [hy])) [] (by simp)
      cases l <;> simpa [planSum] using this
    cases p with
    | nil =>
      simp only [planSum, bound, List.map_cons, List.sum_cons]
      unfold bound at hrest
      omega
    | cons d p =>
      have h1 := ih (fun y hy => hok y (by simp [hy])) p (fun e he => hp e (by simp [he]))
      have h2 := hp d (by simp)
      simp only [planSum]
      unfold bound at h1 ⊢
      rw [List.map_cons, List.sum_cons]
      by_cases h0 : 0 ≤ d
      · rw [if_pos h0]
        have := bPick_le x D d.toNat (by omega)
        rw [Int.toNat_of_nonneg h0] at this
        omega
      · rw [if_neg h0]; omega
section
variable (l : List S40) (hok : ∀ x ∈ l, plotOk x = true) (hl : l.length ≤ 6) (D : Nat) (hD : 1 ≤ D ∧ D ≤ 20)
include hok hl hD
theorem bound_ev : Ev (fun k => impl_WorthBound.f k l D) (bound l D, 0) := by
  have key : ∀ j i : Nat, i ≤ l.length → l.length - i = j → ∀ s, 0 ≤ s → s ≤ 1000 * (i : Int) → Ev (fun k => impl_WorthBound.l0 k D s l (l.length : Int) (i : Int)) (s + bound (l.drop i) D, 0) := by
    intro j
    induction j with
    | zero =>
      intro i hi hj s s0 s1
      refine Ev.step (fun k => ?_) (Ev.now _)
      rw [impl_WorthBound.l0, if_neg (by omega), List.drop_of_length_le (by omega)]
      simp [bound]
    | succ j ih =>
      intro i hi hj s s0 s1
      have hlt : i < l.length := by omega
      have hb := bPick_bound l[i] (hok _ (List.getElem_mem hlt)) D
      have h2 := Ev.bind (f := fun k (bt : Int × Int) => impl_WorthBound.l0 k D (wrap64 (s + bt.2)) l (l.length : Int) (wrap64 ((i : Int) + 1))) (ibest_ev l[i] (hok _ (List.getElem_mem hlt)) D hD.2) (r := (s + bound (l.drop i) D, 0)) (by
        have := ih (i + 1) (by omega) (by omega) (s + (bPick l[i] D).2) (by omega) (by omega)
        refine Ev.congr (fun k => ?_) (by
          rw [List.drop_eq_getElem_cons hlt]
          unfold bound at this ⊢
          rw [List.map_cons, List.sum_cons, ← Int.add_assoc]
          exact this)
        rw [wrap_nat i (by omega), show wrap64 (s + (bPick l[i] D).2) = s + (bPick l[i] D).2 by unfold wrap64; omega])
      refine Ev.step (fun k => ?_) h2
      rw [impl_WorthBound.l0, if_pos (by omega), if_pos (by omega), if_pos (by omega), pl_rd l i hlt]
  refine Ev.congr (f := fun k => (impl_plotsCode.f k l true).bind (fun t => if t = 0 then impl_WorthBound.l0 k D 0 l (l.length : Int) 0 else some (0, t))) (fun k => ?_) ?_
  · unfold impl_WorthBound.f
    rw [(days_f D hD).1]
    rfl
  · refine Ev.bind (f := fun k t => if t = 0 then impl_WorthBound.l0 k D 0 l (l.length : Int) 0 else some (0, t)) (code_ev l hok hl true) ?_
    have := key l.length 0 (Nat.zero_le _) (by omega) 0 (by omega) (by omega)
    rw [List.drop_zero, Int.zero_add] at this
    refine Ev.congr (fun k => ?_) this
    show (if (0 : Int) = 0 then _ else _) = _
    rw [if_pos rfl]
    rfl
theorem iday_ev (i : Nat) (hi : i < l.length) : Ev (fun k => impl_BestDay.f k l (i : Int) D) ((bPick l[i] D).1, (bPick l[i] D).2, 0) := by
  have hw : wrap64 ((l.length : Int) - 1) = (l.length : Int) - 1 := by unfold wrap64; omega
  refine Ev.congr (f := fun k => (impl_plotsCode.f k l true).bind (fun t => if t = 0 then ((impl_Plot_best.f k l[i].f0 l[i].f1 l[i].f2 l[i].f3 D).bind fun bt => some (bt.1, bt.2, 0)) else some (0, 0, t))) (fun k => ?_) ?_
  · simp only [impl_BestDay.f, impl_isPlot.f, hw, pl_within, Option.bind_some]
    rw [decide_eq_true (by omega), if_pos rfl, (days_f D hD).1]
    simp only [Option.bind_some]
    rw [if_pos (by omega), if_pos (by omega), pl_rd l i hi]
  · refine Ev.bind (f := fun k t => if t = 0 then ((impl_Plot_best.f k l[i].f0 l[i].f1 l[i].f2 l[i].f3 D).bind fun bt => some (bt.1, bt.2, 0)) else some (0, 0, t)) (code_ev l hok hl true) ?_
    exact Ev.bind (f := fun _ (bt : Int × Int) => some (bt.1, bt.2, (0 : Int))) (ibest_ev l[i] (hok _ (List.getElem_mem hi)) D hD.2) (Ev.now _)
theorem sday_ev (i : Nat) (hi : i < l.length) : Ev (fun k => spec_BestDay.f k l (i : Int) D) ((bPick l[i] D).1, (bPick l[i] D).2, 0) := by
  have hw : wrap64 ((l.length : Int) - 1) = (l.length : Int) - 1 := by unfold wrap64; omega
  refine Ev.congr (f := fun k => (spec_l07Asked.f k l true).bind (fun t => if t = 0 then ((spec_l07Best.f k l[i].f0 l[i].f1 l[i].f2 l[i].f3 D).bind fun bt => some (bt.1, bt.2, 0)) else some (0, 0, t))) (fun k => ?_) ?_
  · simp only [spec_BestDay.f, spec_l07Index.f, hw, spec_in_f, Option.bind_some]
    rw [decide_eq_true (by omega), if_pos rfl, (days_f D hD).2]
    simp only [Option.bind_some]
    rw [if_pos (by omega), if_pos (by omega), pl_rd l i hi]
  · refine Ev.bind (f := fun k t => if t = 0 then ((spec_l07Best.f k l[i].f0 l[i].f1 l[i].f2 l[i].f3 D).bind fun bt => some (bt.1, bt.2, 0)) else some (0, 0, t)) (asked_ev l hok hl true) ?_
    exact Ev.bind (f := fun _ (bt : Int × Int) => some (bt.1, bt.2, (0 : Int))) (sbest_ev l[i] (hok _ (List.getElem_mem hi)) D hD.1 hD.2) (Ev.now _)
omit hD in
theorem worthOn_ev (i : Nat) (hi : i < l.length) (d : Int) (hd : 0 ≤ d ∧ d ≤ 200) : Ev (fun k => impl_WorthOn.f k l (i : Int) d) (pw l[i] d, 0) := by
  have hw : wrap64 ((l.length : Int) - 1) = (l.length : Int) - 1 := by unfold wrap64; omega
  refine Ev.congr (f := fun k => (impl_plotsCode.f k l true).bind (fun t => if t = 0 then some (pw l[i] d, 0) else some (0, t))) (fun k => ?_) ?_
  · simp only [impl_WorthOn.f, impl_isPlot.f, hw, pl_within, Option.bind_some]
    rw [decide_eq_true (by omega), if_pos rfl, decide_eq_true hd]
    rw [if_pos (by omega), if_pos (by omega), pl_rd l i hi, impl_worth_f _ _ (hok _ (List.getElem_mem hi)) (by omega) (by omega)]
    rfl
  · exact Ev.bind (f := fun k t => if t = 0 then some (pw l[i] d, 0) else some (0, t)) (code_ev l hok hl true) (Ev.congr (f := fun _ => some (pw l[i] d, 0)) (fun k => by rw [if_pos rfl, if_pos rfl]) (Ev.now _))
end
section
variable (l : List S40) (hok : ∀ x ∈ l, plotOk x = true) (hl : l.length ≤ 6) (h : Int) (hh : 1 ≤ h ∧ h ≤ 3) (D : Nat) (hD : 1 ≤ D ∧ D ≤ 20) (p : List Int) (hp : okPlan h D p) (hlen : p.length = l.length)
include hok hl hh hD hp hlen
theorem planOk_true : planOk l h p = true := by
  unfold planOk
  have h1 : l.all plotOk = true := by rw [List.all_eq_true]; exact hok
  have h2 : planDays p = true := by
    unfold planDays
    rw [List.all_eq_true]
    intro d hd
    have := hp.1 d hd
    exact decide_eq_true (by omega)
  have h3 : Lib.maxOf (counts p) ≤ h := by
    have hne : counts p ≠ [] := by intro e; have := congrArg List.length e; simp [counts] at this
    obtain ⟨g1, _⟩ := maxOf_spec (counts p) hne
    simp only [counts, List.mem_map, List.mem_range] at g1
    obtain ⟨d, hd, e⟩ := g1
    have e2 : Lib.maxOf (counts p) = dayCount p d := e.symm
    rw [e2]
    by_cases hdD : d < D
    · exact hp.2 d hdD
    · have : dayCount p d = 0 := by
        unfold dayCount
        rw [List.count_eq_zero.2]
        · rfl
        · intro hm
          have := hp.1 _ hm
          omega
      omega
  rw [h1, decide_eq_true hl, decide_eq_true hh, decide_eq_true hlen, h2, decide_eq_true h3]
  rfl
theorem validPlan_f : impl_ValidPlan.f l h p = some true := by
  unfold impl_ValidPlan.f
  rw [if_pos ⟨by omega, by omega, plOk_wf l hok⟩, planOk_true l hok hl h hh D hD p hp hlen]
theorem worthOf_ev : Ev (fun k => impl_WorthOf.f k l h p) (planSum l p, 0) := by
  have hw := worthsL_length l p hlen
  refine ⟨l.length + 1, fun k hk => ?_⟩
  show impl_WorthOf.f k l h p = _
  unfold impl_WorthOf.f
  rw [validPlan_f l hok hl h hh D hD p hp hlen]
  simp only [Option.bind_some, if_true]
  rw [worths_f l hok p (fun d hd => by have := hp.1 d hd; omega) hlen hl k (by omega)]
  simp only [Option.bind_some]
  rw [total_f _ (worthsL_bound l hok _) (by omega) k (by omega), worthsL_sum]
  rfl
/-- What is lost of each plot. -/
def lostL (l : List S40) (p : List Int) : List Int := (l.zip (worthsL l p)).map fun x => x.1.f0 - x.2
theorem lost_ev : Ev (fun k => impl_LostBy.f k l h p) (lostL l p, 0) := by
  have hw := worthsL_length l p hlen
  have hll : (lostL l p).length = l.length := by unfold lostL; rw [List.length_map, List.length_zip, hw]; omega
  have key : ∀ j i : Nat, i ≤ l.length → l.length - i = j → Ev (fun k => impl_LostBy.l0 k ((lostL l p).take i ++ (worthsL l p).drop i) l (l.length : Int) (i : Int)) (lostL l p, 0) := by
    intro j
    induction j with
    | zero =>
      intro i hi hj
      obtain rfl : i = l.length := by omega
      refine Ev.step (fun k => ?_) (Ev.now _)
      rw [impl_LostBy.l0, if_neg (by omega), List.drop_of_length_le (by omega), List.append_nil, ← hll, List.take_length]
    | succ j ih =>
      intro i hi hj
      have hlt : i < l.length := by omega
      have hltw : i < (worthsL l p).length := by omega
      have hltl : i < (lostL l p).length := by omega
      have hb := worthsL_bound l hok p (worthsL l p)[i] (List.getElem_mem hltw)
      have hx := hok l[i] (List.getElem_mem hlt)
      rw [plotOk_iff] at hx
      refine Ev.step (fun k => ?_) (ih (i + 1) (by omega) (by omega))
      have hlen2 : ((lostL l p).take i ++ (worthsL l p).drop i).length = l.length := by
        rw [List.length_append, List.length_take, List.length_drop]; omega
      have hat : ((lostL l p).take i ++ (worthsL l p).drop i).getD i 0 = (worthsL l p)[i] := by
        rw [List.getD_eq_getElem?_getD, List.getElem?_append_right (by rw [List.length_take]; omega), List.length_take, Nat.min_eq_left (by omega), Nat.sub_self, List.drop_eq_getElem_cons hltw]
        rfl
      have hl0 : (lostL l p)[i] = l[i].f0 - (worthsL l p)[i] := by simp [lostL]
      rw [impl_LostBy.l0, if_pos (by omega), if_pos (by omega), if_pos (by omega), if_pos (by rw [hlen2]; omega), pl_rd l i hlt, rd_nat, hat, Int.toNat_natCast, wrap_nat i (by omega)]
      have e0 : wrap64 l[i].f0 = l[i].f0 := by unfold wrap64; omega
      have e1 : wrap64 (l[i].f0 - (worthsL l p)[i]) = l[i].f0 - (worthsL l p)[i] := by unfold wrap64; omega
      rw [e0, e1, ← hl0]
      congr 1
      rw [List.set_append, if_neg (by rw [List.length_take]; omega), List.length_take, Nat.min_eq_left (by omega), Nat.sub_self, List.drop_eq_getElem_cons hltw, List.set_cons_zero, List.take_succ_eq_append_getElem hltl, List.append_assoc]
      rfl
  obtain ⟨K, hK⟩ := key l.length 0 (Nat.zero_le _) (by omega)
  refine ⟨max K (l.length + 1), fun k hk => ?_⟩
  show impl_LostBy.f k l h p = _
  unfold impl_LostBy.f
  rw [validPlan_f l hok hl h hh D hD p hp hlen]
  simp only [Option.bind_some, if_true]
  rw [worths_f l hok p (fun d hd => by have := hp.1 d hd; omega) hlen hl k (by omega)]
  have := hK k (by omega)
  simpa using this
end
theorem same_ev (p : List Int) (hp : p.length ≤ 1000) : Ev (fun k => spec_SameNumbers.f k p p) true := by
  have key : ∀ j i : Nat, i ≤ p.length → p.length - i = j → Ev (fun k => spec_l00Same.l0 k p p (i : Int)) true := by
    intro j
    induction j with
    | zero =>
      intro i hi hj
      refine Ev.step (f := fun _ => some true) (fun k => ?_) (Ev.now _)
      rw [spec_l00Same.l0, if_neg (by omega)]
    | succ j ih =>
      intro i hi hj
      refine Ev.step (fun k => ?_) (ih (i + 1) (by omega) (by omega))
      rw [spec_l00Same.l0, if_pos (by omega), if_pos (by omega), if_pos (by omega), if_pos rfl, wrap_nat i (by omega)]
  refine Ev.congr (f := fun k => (spec_l00Same.l0 k p p 0).bind fun t => some t) (fun k => ?_) (Ev.bind (f := fun _ t => some t) (key p.length 0 (Nat.zero_le _) (by omega)) (Ev.now _))
  unfold spec_SameNumbers.f spec_l00Same.f
  rw [if_pos rfl]
/-! Hands. -/
/-- The first of some hands with which the best plan is worth so much. -/
def firstHands (l : List S40) (D : Nat) (w : Int) : Int × Int :=
  if tryV l 1 D [] ≥ w then (1, 0) else if tryV l 2 D [] ≥ w then (2, 0) else if tryV l 3 D [] ≥ w then (3, 0) else (0, 6)
section
variable (l : List S40) (hok : ∀ x ∈ l, plotOk x = true) (hl : l.length ≤ 6) (D : Nat) (hD : 1 ≤ D ∧ D ≤ 20) (w : Int) (hw : 0 ≤ w)
include hok hl hD hw
theorem ihands_ev : Ev (fun k => impl_HandsFor.f k l D w) (firstHands l D w) := by
  have hm : ∀ h : Int, 0 ≤ h → h ≤ 3 → Ev (fun k => impl_most.f k l h D ([] : List Int)) (tryV l h D []) := fun h h1 h2 => (most_val l h D hok hl h1 h2 hD.2 [] (Nat.zero_le _) (by simp)).1 (lead_nil l h D h1).1
  have h4 : Ev (fun k => impl_HandsFor.l0 k l D w 4) (0, 6) := Ev.step (fun k => by rw [impl_HandsFor.l0, if_neg (by decide)]) (Ev.now _)
  have step : ∀ (h : Int) (r : Int × Int), 0 ≤ h → h ≤ 3 → Ev (fun k => impl_HandsFor.l0 k l D w (h + 1)) r → Ev (fun k => impl_HandsFor.l0 k l D w h) (if tryV l h D [] ≥ w then (h, 0) else r) := by
    intro h r h1 h2 hr
    refine Ev.step (f := fun k => (impl_most.f k l h D ([] : List Int)).bind fun t => if t ≥ w then some (h, 0) else impl_HandsFor.l0 k l D w (h + 1)) (fun k => ?_) ?_
    · rw [impl_HandsFor.l0, if_pos h2, show wrap64 (h + 1) = h + 1 by unfold wrap64; omega]
    · refine Ev.bind (f := fun k t => if t ≥ w then some (h, (0 : Int)) else impl_HandsFor.l0 k l D w (h + 1)) (hm h h1 h2) ?_
      by_cases hc : tryV l h D [] ≥ w
      · refine Ev.congr (f := fun _ => some (h, 0)) (fun k => by rw [if_pos hc]) ?_
        rw [if_pos hc]
        exact Ev.now _
      · refine Ev.congr (fun k => by rw [if_neg hc]) ?_
        rw [if_neg hc]
        exact hr
  have h1 := step 1 _ (by decide) (by decide) (step 2 _ (by decide) (by decide) (step 3 _ (by decide) (by decide) h4))
  refine Ev.congr (f := fun k => (impl_plotsCode.f k l true).bind (fun t => impl_HandsFor.j0 k l D w t)) (fun k => ?_) ?_
  · unfold impl_HandsFor.f
    rw [(days_f D hD).1]
    simp only [Option.bind_some, if_true]
    rw [decide_eq_true (by omega)]
  · refine Ev.bind (f := fun k t => impl_HandsFor.j0 k l D w t) (code_ev l hok hl true) ?_
    refine Ev.step (fun k => ?_) h1
    rw [impl_HandsFor.j0, if_pos rfl, if_pos rfl]
theorem shands_ev : Ev (fun k => spec_HandsFor.f k l D w) (firstHands l D w) := by
  have hm : ∀ h : Int, 0 ≤ h → h ≤ 3 → spec_l07Try.f l h D ([] : List Int) = some (tryV l h D []) := fun h h1 h2 => try_f l h D [] ⟨hl, hok, by omega, by omega, h1, h2, Nat.zero_le _, by simp⟩
  have h4 : Ev (fun k => spec_HandsFor.l0 k l D w 4) (0, 6) := Ev.step (fun k => by rw [spec_HandsFor.l0, if_neg (by decide)]) (Ev.now _)
  have step : ∀ (h : Int) (r : Int × Int), 0 ≤ h → h ≤ 3 → Ev (fun k => spec_HandsFor.l0 k l D w (h + 1)) r → Ev (fun k => spec_HandsFor.l0 k l D w h) (if tryV l h D [] ≥ w then (h, 0) else r) := by
    intro h r h1 h2 hr
    refine Ev.step (f := fun k => if tryV l h D [] ≥ w then some (h, 0) else spec_HandsFor.l0 k l D w (h + 1)) (fun k => ?_) ?_
    · rw [spec_HandsFor.l0, if_pos h2, show wrap64 (h + 1) = h + 1 by unfold wrap64; omega, hm h h1 h2]
      rfl
    · by_cases hc : tryV l h D [] ≥ w
      · refine Ev.congr (f := fun _ => some (h, 0)) (fun k => by rw [if_pos hc]) ?_
        rw [if_pos hc]
        exact Ev.now _
      · refine Ev.congr (fun k => by rw [if_neg hc]) ?_
        rw [if_neg hc]
        exact hr
  have h1 := step 1 _ (by decide) (by decide) (step 2 _ (by decide) (by decide) (step 3 _ (by decide) (by decide) h4))
  refine Ev.congr (f := fun k => (spec_l07Asked.f k l true).bind (fun t => spec_HandsFor.j0 k l D w t)) (fun k => ?_) ?_
  · unfold spec_HandsFor.f
    rw [(days_f D hD).2]
    simp only [Option.bind_some, if_true]
    rw [decide_eq_true (by omega)]
  · refine Ev.bind (f := fun k t => spec_HandsFor.j0 k l D w t) (asked_ev l hok hl true) ?_
    refine Ev.step (fun k => ?_) h1
    rw [spec_HandsFor.j0, if_pos rfl, if_pos rfl]
end
end Go.Proofs.Ytokeeplkbgdokaa

/- Functions of the program as Lean functions, each with a proof that a call of it comes to just that. Written by this session's program wip/tools/myprint.py. -/
namespace Go.Proofs.Ytokeeplkbgdokaa.Pq
open Go.RowKit Go.Proofs.YtokeeplkbgdokaaW.PrintWords Go.Proofs.YtokeeplkbgdokaaW.PrintLast Go.Proofs.YtokeeplkbgdokaaW.PrintMore
attribute [local go_sem] max2_int min2_int max_two min_two max_three min_three max_four min_four   -- for this text's walks alone
set_option linter.unusedVariables false
set_option linter.unusedSimpArgs false

/-- A state of type 66 at block g of W; what its slices lead to came in by w0. -/
def IsS66 (w0 W : World) (g : Nat) (f0 : List Int) (f1 : Int) (f2 : Int) : Prop := ∃ A0 c0, W.heap[g]? = some (.cells #[.slice A0 f0.length c0, .int .i64 f1, .int .u64 f2] 66 (0, 0)) ∧ w0.heap.size ≤ g ∧ Kd.C (Kd.int .u8) w0 A0 f0.length f0
theorem IsS66.grown {w0 W : World} {g : Nat} {f0 : List Int} {f1 : Int} {f2 : Int} {W1 : World} {row : Option Nat} (h : IsS66 w0 W g f0 f1 f2) (hw : W.grownBy W1 row) (hne : some g ≠ row) : IsS66 w0 W1 g f0 f1 f2 := by
 obtain ⟨A0, c0, hb, hg, hr0⟩ := h
 exact ⟨A0, c0, blk_grown hb hw hne, hg, hr0⟩
theorem IsS66.own_neN {w0 W : World} {g : Nat} {f0 : List Int} {f1 : Int} {f2 : Int} {α : Type} {d : Kd α} {e : Nat} {base : Nat} {ok : Nat → Prop} {v : Value} {xs : List α} (h : IsS66 w0 W g f0 f1 f2) (ho : Kd.N d e W base ok v xs) (ht : e ≠ 66) : some g ≠ v.ownBlock := by
 obtain ⟨A0, c0, hb, hg, hr0⟩ := h
 exact Kd.N_ne ho hb ht
theorem IsS66.fresh {w0 W : World} {g : Nat} {f0 : List Int} {f1 : Int} {f2 : Int} (h : IsS66 w0 W g f0 f1 f2) : ∀ k, W.heap.size ≤ k → k ≠ g := by
 obtain ⟨A0, c0, hb, hg, hr0⟩ := h
 exact Kd.freshB hb
theorem IsS66.kept {w0 W : World} {g : Nat} {f0 : List Int} {f1 : Int} {f2 : Int} {W1 : World} {S : Nat → Prop} (h : IsS66 w0 W g f0 f1 f2) (hk : Kept W W1 S) (hne : ¬ S g) : IsS66 w0 W1 g f0 f1 f2 := by
 obtain ⟨A0, c0, hb, hg, hr0⟩ := h
 exact ⟨A0, c0, blk_kept hb hk hne, hg, hr0⟩
theorem IsS66.below {w0 W : World} {g : Nat} {f0 : List Int} {f1 : Int} {f2 : Int} {W1 : World} (h : IsS66 w0 W g f0 f1 f2) (hw : Below W.heap.size W W1) : IsS66 w0 W1 g f0 f1 f2 := h.grown (grown_of_below hw none) (by simp)
theorem IsS66.alloc {w0 W : World} {g : Nat} {f0 : List Int} {f1 : Int} {f2 : Int} (h : IsS66 w0 W g f0 f1 f2) (o : Obj) : IsS66 w0 (W.alloc o) g f0 f1 f2 := h.below (below_alloc (Below.refl _ _) o)
theorem IsS66.drewN {w0 W : World} {g : Nat} {f0 : List Int} {f1 : Int} {f2 : Int} (h : IsS66 w0 W g f0 f1 f2) (m : Nat) : IsS66 w0 (W.drewN m) g f0 f1 f2 := h
theorem IsS66.drew {w0 W : World} {g : Nat} {f0 : List Int} {f1 : Int} {f2 : Int} (h : IsS66 w0 W g f0 f1 f2) : IsS66 w0 W.drew g f0 f1 f2 := h
theorem IsS66.at_ {w0 W : World} {g : Nat} {f0 : List Int} {f1 : Int} {f2 : Int} {w' : World} {m : Nat} (hq : W.drewN m = w') (h : IsS66 w0 W g f0 f1 f2) : IsS66 w0 w' g f0 f1 f2 := by subst hq; exact IsS66.drewN h m
theorem IsS66.apart {w0 W : World} {g : Nat} {f0 : List Int} {f1 : Int} {f2 : Int} {α : Type} {d : Kd α} {e : Nat} {base : Nat} {ok : Nat → Prop} {v : Value} {xs : List α} (h : IsS66 w0 W g f0 f1 f2) (ho : d.R e W base ok v xs) (ht : ∀ q, q ∈ e :: d.E → q ≠ 66) : d.R e W base (fun k => ok k ∧ k ≠ g) v xs := by
 obtain ⟨A0, c0, hb, hg, hr0⟩ := h
 exact Kd.R_types ho hb ht
theorem IsS66.own_ne {w0 W : World} {g : Nat} {f0 : List Int} {f1 : Int} {f2 : Int} {α : Type} {d : Kd α} {e : Nat} {base : Nat} {ok : Nat → Prop} {v : Value} {xs : List α} (h : IsS66 w0 W g f0 f1 f2) (ho : d.R e W base ok v xs) (ht : e ≠ 66) : some g ≠ v.ownBlock := by
 obtain ⟨A0, c0, hb, hg, hr0⟩ := h
 exact Kd.R_ne ho hb ht
theorem IsS66.apartQ {w0 W : World} {g : Nat} {f0 : List Int} {f1 : Int} {f2 : Int} {α : Type} {d : Kd α} {e : Nat} {base : Nat} {ok : Nat → Prop} {v : Value} {xs : List α} (h : IsS66 w0 W g f0 f1 f2) (ho : d.Q e W base ok v xs) (ht : ∀ q, q ∈ e :: d.E → q ≠ 66) : d.Q e W base (fun k => ok k ∧ k ≠ g) v xs := by
 obtain ⟨A0, c0, hb, hg, hr0⟩ := h
 exact Kd.Q_types ho hb ht
theorem IsS66.own_neQ {w0 W : World} {g : Nat} {f0 : List Int} {f1 : Int} {f2 : Int} {α : Type} {d : Kd α} {e : Nat} {base : Nat} {ok : Nat → Prop} {v : Value} {xs : List α} (h : IsS66 w0 W g f0 f1 f2) (ho : d.Q e W base ok v xs) (ht : e ≠ 66) : some g ≠ v.ownBlock := by
 obtain ⟨A0, c0, hb, hg, hr0⟩ := h
 exact Kd.Q_ne ho hb ht
theorem IsS66.apartS {w0 W : World} {g : Nat} {f0 : List Int} {f1 : Int} {f2 : Int} {α : Type} {d : Kd α} {e : Nat} {base : Nat} {ok : Nat → Prop} {v : Value} {xs : List α} (h : IsS66 w0 W g f0 f1 f2) (ho : d.S e W base ok v xs) (ht : ∀ q, q ∈ e :: d.E → q ≠ 66) : d.S e W base (fun k => ok k ∧ k ≠ g) v xs := by
 obtain ⟨A0, c0, hb, hg, hr0⟩ := h
 exact Kd.S_types ho hb ht
theorem IsS66.own_neS {w0 W : World} {g : Nat} {f0 : List Int} {f1 : Int} {f2 : Int} {α : Type} {d : Kd α} {e : Nat} {base : Nat} {ok : Nat → Prop} {v : Value} {xs : List α} (h : IsS66 w0 W g f0 f1 f2) (ho : d.S e W base ok v xs) (ht : e ≠ 66) : some g ≠ v.ownBlock := by
 obtain ⟨A0, c0, hb, hg, hr0⟩ := h
 exact Kd.S_ne ho hb ht
theorem IsS66.lt {w0 W : World} {g : Nat} {f0 : List Int} {f1 : Int} {f2 : Int} (h : IsS66 w0 W g f0 f1 f2) : g < W.heap.size := by
 obtain ⟨A0, c0, hb, hg, hr0⟩ := h
 exact blk_lt hb
theorem IsS66.ge {w0 W : World} {g : Nat} {f0 : List Int} {f1 : Int} {f2 : Int} (h : IsS66 w0 W g f0 f1 f2) : w0.heap.size ≤ g := by
 obtain ⟨A0, c0, hb, hg, hr0⟩ := h
 exact hg
theorem IsS66.ne_blk {w0 W : World} {g : Nat} {f0 : List Int} {f1 : Int} {f2 : Int} {a : Nat} {cs : Array Value} {t : TypeId} {fr : Nat × Nat} (h : IsS66 w0 W g f0 f1 f2) (hb2 : W.heap[a]? = some (.cells cs t fr)) (ht : t ≠ 66) : g ≠ a := by
 obtain ⟨A0, c0, hb, hg, hr0⟩ := h
 rintro rfl
 rw [hb] at hb2
 injection hb2 with hb2
 injection hb2 with _ ht2
 exact ht ht2.symm
theorem IsS66.far {w0 W : World} {g : Nat} {f0 : List Int} {f1 : Int} {f2 : Int} {p : Addr} (h : IsS66 w0 W g f0 f1 f2) (hne : g ≠ p.block) (u : Value) : IsS66 w0 (W.setCell p u) g f0 f1 f2 := by
 obtain ⟨A0, c0, hb, hg, hr0⟩ := h
 exact ⟨A0, c0, blk_far hb hne u, hg, hr0⟩
theorem cellS66_0 {W : World} {g : Nat} {A0 : Option Addr} {c0 : Nat} {f0 : List Int} {f1 : Int} {f2 : Int} (h : W.heap[g]? = some (.cells #[.slice A0 f0.length c0, .int .i64 f1, .int .u64 f2] 66 (0, 0))) : W.cell? ⟨g, 0, none⟩ = some (.slice A0 f0.length c0) := (blk_cell h 0).trans rfl
theorem cellS66_1 {W : World} {g : Nat} {A0 : Option Addr} {c0 : Nat} {f0 : List Int} {f1 : Int} {f2 : Int} (h : W.heap[g]? = some (.cells #[.slice A0 f0.length c0, .int .i64 f1, .int .u64 f2] 66 (0, 0))) : W.cell? ⟨g, 1, none⟩ = some (.int .i64 f1) := (blk_cell h 1).trans rfl
theorem IsS66.set_1 {w0 W : World} {g : Nat} {f0 : List Int} {f1 : Int} {f2 : Int} (h : IsS66 w0 W g f0 f1 f2) (x : Int) : IsS66 w0 (W.setCell ⟨g, 1, none⟩ (.int .i64 x)) g f0 x f2 := by
 obtain ⟨A0, c0, hb, hg, hr0⟩ := h
 exact ⟨A0, c0, by simpa using blk_set hb 1 (.int .i64 x), hg, hr0⟩
theorem cellS66_2 {W : World} {g : Nat} {A0 : Option Addr} {c0 : Nat} {f0 : List Int} {f1 : Int} {f2 : Int} (h : W.heap[g]? = some (.cells #[.slice A0 f0.length c0, .int .i64 f1, .int .u64 f2] 66 (0, 0))) : W.cell? ⟨g, 2, none⟩ = some (.int .u64 f2) := (blk_cell h 2).trans rfl
theorem IsS66.set_2 {w0 W : World} {g : Nat} {f0 : List Int} {f1 : Int} {f2 : Int} (h : IsS66 w0 W g f0 f1 f2) (x : Int) : IsS66 w0 (W.setCell ⟨g, 2, none⟩ (.int .u64 x)) g f0 f1 x := by
 obtain ⟨A0, c0, hb, hg, hr0⟩ := h
 exact ⟨A0, c0, by simpa using blk_set hb 2 (.int .u64 x), hg, hr0⟩
theorem IsS66.new (w0 W : World) (A0 : Option Addr) (c0 : Nat) (f0 : List Int) (f1 : Int) (f2 : Int) (hB : Below w0.heap.size w0 W) (hr0 : Kd.C (Kd.int .u8) w0 A0 f0.length f0) : IsS66 w0 (W.alloc (.cells #[.slice A0 f0.length c0, .int .i64 f1, .int .u64 f2] 66)) W.heap.size f0 f1 f2 := ⟨A0, c0, by simpa using heap_alloc_new W _, hB.size, hr0⟩

/-! ### spec_l00Src_next: function 47 -/
def spec_l00Src_next.f (s0_0 : List Int) (s0_1 : Int) (s0_2 : Int) : Option (Int × Int × Int) := if s0_1 < (s0_0.length : Int) then (if 0 ≤ s0_1 then (if (wrap64 (s0_1 + 1)) ≤ (s0_0.length : Int) then (some (wrap64 (rd s0_0 s0_1), wrap64 (s0_1 + 1), IntKind.u64.wrap ((IntKind.u64.wrap ((IntKind.u64.wrap (s0_2 * 6364136223846793005)) + (IntKind.u64.wrap (wrap64 (rd s0_0 s0_1))))) + 1442695040888963407))) else (some (wrap64 (Go.bits .and .u64 ((IntKind.u64.wrap ((IntKind.u64.wrap ((IntKind.u64.wrap (s0_2 * 6364136223846793005)) + (IntKind.u64.wrap (wrap64 (rd s0_0 s0_1))))) + 1442695040888963407)) / 1099511627776) 255), wrap64 (s0_1 + 1), IntKind.u64.wrap ((IntKind.u64.wrap ((IntKind.u64.wrap (s0_2 * 6364136223846793005)) + (IntKind.u64.wrap (wrap64 (rd s0_0 s0_1))))) + 1442695040888963407)))) else (none)) else (if (wrap64 (s0_1 + 1)) ≤ (s0_0.length : Int) then (some (0, wrap64 (s0_1 + 1), IntKind.u64.wrap ((IntKind.u64.wrap ((IntKind.u64.wrap (s0_2 * 6364136223846793005)))) + 1442695040888963407))) else (some (wrap64 (Go.bits .and .u64 ((IntKind.u64.wrap ((IntKind.u64.wrap ((IntKind.u64.wrap (s0_2 * 6364136223846793005)))) + 1442695040888963407)) / 1099511627776) 255), wrap64 (s0_1 + 1), IntKind.u64.wrap ((IntKind.u64.wrap ((IntKind.u64.wrap (s0_2 * 6364136223846793005)))) + 1442695040888963407))))
set_option maxHeartbeats 8000000 in
set_option maxRecDepth 100000 in
theorem spec_l00Src_next.calls (g : Nat) (s0_0 : List Int) (s0_1 : Int) (s0_2 : Int) (r1 : Int) (r2 : Int) (r3 : Int) (w0 w : World) (hI : IsS66 w0 w g s0_0 s0_1 s0_2) (hB : Below w0.heap.size w0 w) (h : spec_l00Src_next.f s0_0 s0_1 s0_2 = some (r1, r2, r3)) :
  Calls Try.prog 47 #[.pointer (some ⟨g, 0, none⟩)] w fun e w' => e = .returned (.int .i64 r1) ∧ IsS66 w0 w' g s0_0 r2 r3 ∧ Below w0.heap.size w0 w' ∧ KeepBut w w' g none := by
 have HI0 := Aside0.mk hI
 have HK := Aside0.mk (KeepBut.refl w g none)
 have HL := Aside0.mk hB.size
 clear hI
 have HW0 := Aside0.mk hB.size
 have HB := Aside0.mk hB
 clear hB
 have H : (if s0_1 < (s0_0.length : Int) then (if 0 ≤ s0_1 then (if (wrap64 (s0_1 + 1)) ≤ (s0_0.length : Int) then (some (wrap64 (rd s0_0 s0_1), wrap64 (s0_1 + 1), IntKind.u64.wrap ((IntKind.u64.wrap ((IntKind.u64.wrap (s0_2 * 6364136223846793005)) + (IntKind.u64.wrap (wrap64 (rd s0_0 s0_1))))) + 1442695040888963407))) else (some (wrap64 (Go.bits .and .u64 ((IntKind.u64.wrap ((IntKind.u64.wrap ((IntKind.u64.wrap (s0_2 * 6364136223846793005)) + (IntKind.u64.wrap (wrap64 (rd s0_0 s0_1))))) + 1442695040888963407)) / 1099511627776) 255), wrap64 (s0_1 + 1), IntKind.u64.wrap ((IntKind.u64.wrap ((IntKind.u64.wrap (s0_2 * 6364136223846793005)) + (IntKind.u64.wrap (wrap64 (rd s0_0 s0_1))))) + 1442695040888963407)))) else (none)) else (if (wrap64 (s0_1 + 1)) ≤ (s0_0.length : Int) then (some (0, wrap64 (s0_1 + 1), IntKind.u64.wrap ((IntKind.u64.wrap ((IntKind.u64.wrap (s0_2 * 6364136223846793005)))) + 1442695040888963407))) else (some (wrap64 (Go.bits .and .u64 ((IntKind.u64.wrap ((IntKind.u64.wrap ((IntKind.u64.wrap (s0_2 * 6364136223846793005)))) + 1442695040888963407)) / 1099511627776) 255), wrap64 (s0_1 + 1), IntKind.u64.wrap ((IntKind.u64.wrap ((IntKind.u64.wrap (s0_2 * 6364136223846793005)))) + 1442695040888963407))))) = some (r1, r2, r3) := h
 clear h
 by_cases c2 : s0_1 < (s0_0.length : Int)
 ·rw [if_pos c2] at H
  have c2b0 : decide (s0_1 < (s0_0.length : Int)) = true := decide_eq_true c2
  clear c2
  by_cases c3 : 0 ≤ s0_1
  ·rw [if_pos c3] at H
   have c3b0 : decide (0 ≤ s0_1) = true := decide_eq_true c3
   clear c3
   by_cases c4 : (wrap64 (s0_1 + 1)) ≤ (s0_0.length : Int)
   ·rw [if_pos c4] at H
    have c4b0 : decide ((wrap64 (s0_1 + 1)) ≤ (s0_0.length : Int)) = true := decide_eq_true c4
    clear c4
    simp only [Option.some.injEq, Prod.mk.injEq] at H
    obtain ⟨rfl, rfl, rfl⟩ := H
    obtain ⟨ASz5_0, cSz5_0, HGz5, hgz5, HSz5_0⟩ := HI0.out
    have hcz5_0 := cellS66_0 HGz5
    have hcz5_1 := cellS66_1 HGz5
    have hcz5_2 := cellS66_2 HGz5
    have hfz5_1 := blk_frozen HGz5 1
    have hfz5_2 := blk_frozen HGz5 2
    clear HGz5 hgz5
    have p101 : 0 ≤ (s0_1 : Int) := of_decide_eq_true (by first | (with_reducible assumption) | assumption)
    have q101 : s0_1 < (s0_0.length : Int) := of_decide_eq_true (by first | (with_reducible assumption) | assumption)
    obtain ⟨ad101, e101, hx101_0⟩ := Kd.at_int HSz5_0 s0_1 p101 q101
    cases e101
    replace hx101_0 := pw_cell_below HB.out hx101_0
    replace p101 := eq_true p101
    replace q101 := eq_true q101
    go_enter Try.func47, Try.ntmps47
    go_wp2
    repeat (go_quiet (fail); try go_wp2)
    go_ret
    exact ⟨by first | rfl | (simp [errW_none, errW_some] <;> rfl) | (simp [*, errW_none, errW_some] <;> rfl), by repeat (first | (with_reducible first | exact HI0.out | apply IsS66.alloc | apply IsS66.drewN | apply IsS66.drew | apply IsS66.set_1 | apply IsS66.set_2) | exact HI0.out), by repeat (first | (with_reducible first | exact HB.out | apply below_alloc | apply pw_below_drewN | apply below_drew1 | refine below_set ?_ (IsS66.ge HI0.out)) | exact HB.out), by repeat (first | (with_reducible first | exact HK.out | apply KeepBut.set_ | apply keep_drewN | apply keep_drew | apply keep_alloc) | exact HK.out)⟩
   ·rw [if_neg c4] at H
    have c4b0 : decide ((wrap64 (s0_1 + 1)) ≤ (s0_0.length : Int)) = false := decide_eq_false c4
    clear c4
    simp only [Option.some.injEq, Prod.mk.injEq] at H
    obtain ⟨rfl, rfl, rfl⟩ := H
    obtain ⟨ASz6_0, cSz6_0, HGz6, hgz6, HSz6_0⟩ := HI0.out
    have hcz6_0 := cellS66_0 HGz6
    have hcz6_1 := cellS66_1 HGz6
    have hcz6_2 := cellS66_2 HGz6
    have hfz6_1 := blk_frozen HGz6 1
    have hfz6_2 := blk_frozen HGz6 2
    clear HGz6 hgz6
    have p101 : 0 ≤ (s0_1 : Int) := of_decide_eq_true (by first | (with_reducible assumption) | assumption)
    have q101 : s0_1 < (s0_0.length : Int) := of_decide_eq_true (by first | (with_reducible assumption) | assumption)
    obtain ⟨ad101, e101, hx101_0⟩ := Kd.at_int HSz6_0 s0_1 p101 q101
    cases e101
    replace hx101_0 := pw_cell_below HB.out hx101_0
    replace p101 := eq_true p101
    replace q101 := eq_true q101
    go_enter Try.func47, Try.ntmps47
    go_wp2
    repeat (go_quiet (fail); try go_wp2)
    go_ret
    exact ⟨by first | rfl | (simp [errW_none, errW_some] <;> rfl) | (simp [*, errW_none, errW_some] <;> rfl), by repeat (first | (with_reducible first | exact HI0.out | apply IsS66.alloc | apply IsS66.drewN | apply IsS66.drew | apply IsS66.set_1 | apply IsS66.set_2) | exact HI0.out), by repeat (first | (with_reducible first | exact HB.out | apply below_alloc | apply pw_below_drewN | apply below_drew1 | refine below_set ?_ (IsS66.ge HI0.out)) | exact HB.out), by repeat (first | (with_reducible first | exact HK.out | apply KeepBut.set_ | apply keep_drewN | apply keep_drew | apply keep_alloc) | exact HK.out)⟩
  ·rw [if_neg c3] at H
   exact absurd H (by simp)
 ·rw [if_neg c2] at H
  have c2b0 : decide (s0_1 < (s0_0.length : Int)) = false := decide_eq_false c2
  clear c2
  by_cases c7 : (wrap64 (s0_1 + 1)) ≤ (s0_0.length : Int)
  ·rw [if_pos c7] at H
   have c7b0 : decide ((wrap64 (s0_1 + 1)) ≤ (s0_0.length : Int)) = true := decide_eq_true c7
   clear c7
   simp only [Option.some.injEq, Prod.mk.injEq] at H
   obtain ⟨rfl, rfl, rfl⟩ := H
   obtain ⟨ASz8_0, cSz8_0, HGz8, hgz8, HSz8_0⟩ := HI0.out
   have hcz8_0 := cellS66_0 HGz8
   have hcz8_1 := cellS66_1 HGz8
   have hcz8_2 := cellS66_2 HGz8
   have hfz8_1 := blk_frozen HGz8 1
   have hfz8_2 := blk_frozen HGz8 2
   clear HGz8 hgz8
   go_enter Try.func47, Try.ntmps47
   go_wp2
   repeat (go_quiet (fail); try go_wp2)
   go_ret
   exact ⟨by first | rfl | (simp [errW_none, errW_some] <;> rfl) | (simp [*, errW_none, errW_some] <;> rfl), by repeat (first | (with_reducible first | exact HI0.out | apply IsS66.alloc | apply IsS66.drewN | apply IsS66.drew | apply IsS66.set_1 | apply IsS66.set_2) | exact HI0.out), by repeat (first | (with_reducible first | exact HB.out | apply below_alloc | apply pw_below_drewN | apply below_drew1 | refine below_set ?_ (IsS66.ge HI0.out)) | exact HB.out), by repeat (first | (with_reducible first | exact HK.out | apply KeepBut.set_ | apply keep_drewN | apply keep_drew | apply keep_alloc) | exact HK.out)⟩
  ·rw [if_neg c7] at H
   have c7b0 : decide ((wrap64 (s0_1 + 1)) ≤ (s0_0.length : Int)) = false := decide_eq_false c7
   clear c7
   simp only [Option.some.injEq, Prod.mk.injEq] at H
   obtain ⟨rfl, rfl, rfl⟩ := H
   obtain ⟨ASz9_0, cSz9_0, HGz9, hgz9, HSz9_0⟩ := HI0.out
   have hcz9_0 := cellS66_0 HGz9
   have hcz9_1 := cellS66_1 HGz9
   have hcz9_2 := cellS66_2 HGz9
   have hfz9_1 := blk_frozen HGz9 1
   have hfz9_2 := blk_frozen HGz9 2
   clear HGz9 hgz9
   go_enter Try.func47, Try.ntmps47
   go_wp2
   repeat (go_quiet (fail); try go_wp2)
   go_ret
   exact ⟨by first | rfl | (simp [errW_none, errW_some] <;> rfl) | (simp [*, errW_none, errW_some] <;> rfl), by repeat (first | (with_reducible first | exact HI0.out | apply IsS66.alloc | apply IsS66.drewN | apply IsS66.drew | apply IsS66.set_1 | apply IsS66.set_2) | exact HI0.out), by repeat (first | (with_reducible first | exact HB.out | apply below_alloc | apply pw_below_drewN | apply below_drew1 | refine below_set ?_ (IsS66.ge HI0.out)) | exact HB.out), by repeat (first | (with_reducible first | exact HK.out | apply KeepBut.set_ | apply keep_drewN | apply keep_drew | apply keep_alloc) | exact HK.out)⟩

end Go.Proofs.Ytokeeplkbgdokaa.Pq

/- Functions of the program as Lean functions, each with a proof that a call of it comes to just that. Written by this session's program wip/tools/myprint.py. -/
namespace Go.Proofs.Ytokeeplkbgdokaa.Pq
open Go.RowKit Go.Proofs.YtokeeplkbgdokaaW.PrintWords Go.Proofs.YtokeeplkbgdokaaW.PrintLast Go.Proofs.YtokeeplkbgdokaaW.PrintMore
attribute [local go_sem] max2_int min2_int max_two min_two max_three min_three max_four min_four   -- for this text's walks alone
set_option linter.unusedVariables false
set_option linter.unusedSimpArgs false

/-! ### spec_l00Src_pick: function 24 -/
def spec_l00Src_pick.f (s0_0 : List Int) (s0_1 : Int) (s0_2 : Int) (a1 : Int) : Option (Int × Int × Int) := if a1 ≤ 1 then (some (0, s0_1, s0_2)) else ((spec_l00Src_next.f s0_0 s0_1 s0_2).bind fun bt102 => (if a1 > 200 then ((spec_l00Src_next.f s0_0 bt102.2.1 bt102.2.2).bind fun bt105 => (if a1 = 0 then (none) else (some (Int.tmod (wrap64 ((wrap64 (bt102.1 * 256)) + bt105.1)) a1, bt105.2.1, bt105.2.2)))) else (if a1 = 0 then (none) else (some (Int.tmod bt102.1 a1, bt102.2.1, bt102.2.2)))))
set_option maxHeartbeats 8000000 in
set_option maxRecDepth 100000 in
theorem spec_l00Src_pick.calls (g : Nat) (s0_0 : List Int) (s0_1 : Int) (s0_2 : Int) (a1 : Int) (r1 : Int) (r2 : Int) (r3 : Int) (w0 w : World) (hI : IsS66 w0 w g s0_0 s0_1 s0_2) (hB : Below w0.heap.size w0 w) (h : spec_l00Src_pick.f s0_0 s0_1 s0_2 a1 = some (r1, r2, r3)) :
  Calls Try.prog 24 #[.pointer (some ⟨g, 0, none⟩), .int .i64 a1] w fun e w' => e = .returned (.int .i64 r1) ∧ IsS66 w0 w' g s0_0 r2 r3 ∧ Below w0.heap.size w0 w' ∧ KeepBut w w' g none := by
 have HI0 := Aside0.mk hI
 have HK := Aside0.mk (KeepBut.refl w g none)
 have HL := Aside0.mk hB.size
 clear hI
 have HW0 := Aside0.mk hB.size
 have HB := Aside0.mk hB
 clear hB
 have H : (if a1 ≤ 1 then (some (0, s0_1, s0_2)) else ((spec_l00Src_next.f s0_0 s0_1 s0_2).bind fun bt102 => (if a1 > 200 then ((spec_l00Src_next.f s0_0 bt102.2.1 bt102.2.2).bind fun bt105 => (if a1 = 0 then (none) else (some (Int.tmod (wrap64 ((wrap64 (bt102.1 * 256)) + bt105.1)) a1, bt105.2.1, bt105.2.2)))) else (if a1 = 0 then (none) else (some (Int.tmod bt102.1 a1, bt102.2.1, bt102.2.2)))))) = some (r1, r2, r3) := h
 clear h
 by_cases c3 : a1 ≤ 1
 ·rw [if_pos c3] at H
  have c3b0 : decide (a1 ≤ 1) = true := decide_eq_true c3
  clear c3
  simp only [Option.some.injEq, Prod.mk.injEq] at H
  obtain ⟨rfl, rfl, rfl⟩ := H
  go_enter Try.func24, Try.ntmps24
  go_wp2
  go_ret
  exact ⟨by first | rfl | (simp [errW_none, errW_some] <;> rfl) | (simp [*, errW_none, errW_some] <;> rfl), by repeat (first | (with_reducible first | exact HI0.out | apply IsS66.alloc | apply IsS66.drewN | apply IsS66.drew | apply IsS66.set_1 | apply IsS66.set_2) | exact HI0.out), by repeat (first | (with_reducible first | exact HB.out | apply below_alloc | apply pw_below_drewN | apply below_drew1 | refine below_set ?_ (IsS66.ge HI0.out)) | exact HB.out), by repeat (first | (with_reducible first | exact HK.out | apply KeepBut.set_ | apply keep_drewN | apply keep_drew | apply keep_alloc) | exact HK.out)⟩
 ·rw [if_neg c3] at H
  have c3b0 : decide (a1 ≤ 1) = false := decide_eq_false c3
  clear c3
  replace H := Option.bind_eq_some_iff.mp H
  obtain ⟨⟨t102, t103, t104⟩, A40, H⟩ := H
  replace H : (if a1 > 200 then ((spec_l00Src_next.f s0_0 t103 t104).bind fun bt105 => (if a1 = 0 then (none) else (some (Int.tmod (wrap64 ((wrap64 (t102 * 256)) + bt105.1)) a1, bt105.2.1, bt105.2.2)))) else (if a1 = 0 then (none) else (some (Int.tmod t102 a1, t103, t104)))) = some (r1, r2, r3) := H
  have A4 := Aside0.mk A40
  clear A40
  by_cases c5 : a1 > 200
  ·rw [if_pos c5] at H
   have c5b0 : decide (200 < a1) = true := decide_eq_true c5
   clear c5
   replace H := Option.bind_eq_some_iff.mp H
   obtain ⟨⟨t105, t106, t107⟩, A60, H⟩ := H
   replace H : (if a1 = 0 then (none) else (some (Int.tmod (wrap64 ((wrap64 (t102 * 256)) + t105)) a1, t106, t107))) = some (r1, r2, r3) := H
   have A6 := Aside0.mk A60
   clear A60
   by_cases c7 : a1 = 0
   ·rw [if_pos c7] at H
    exact absurd H (by simp)
   ·rw [if_neg c7] at H
    have c7b0 : (a1 == 0) = false := beq_eq_false_iff_ne.mpr c7
    have c7b1 : (a1 != 0) = true := bne_iff_ne.mpr c7
    simp only [Option.some.injEq, Prod.mk.injEq] at H
    obtain ⟨rfl, rfl, rfl⟩ := H
    go_enter Try.func24, Try.ntmps24
    go_wp2_with (first | ((with_reducible refine gate_callee (f := 47) rfl ?_); refine goesL_ (some 9) rfl rfl Try.func47 (by kernel_rfl) rfl #[.pointer (some ⟨g, 0, none⟩)] rfl (by (try simp only [List.map_toArray, List.map_cons, List.map_nil]); first | done | rfl | (simp only [List.length_drop, List.length_take]; rfl)) ?_; (with_reducible refine (spec_l00Src_next.calls g s0_0 s0_1 s0_2 t102 t103 t104 w0 _ ?side1 ?side2 A4.out).mono ?_); (case side1 => repeat (first | (with_reducible first | exact HI0.out | apply IsS66.alloc | apply IsS66.drewN | apply IsS66.drew | apply IsS66.set_1 | apply IsS66.set_2) | exact HI0.out)); (case side2 => repeat (first | (with_reducible first | exact HB.out | apply below_alloc | apply pw_below_drewN | apply below_drew1 | refine below_set ?_ (IsS66.ge HI0.out)) | exact HB.out)); rintro e w8 ⟨rfl, hi, hb, hk⟩; refine ⟨_, rfl, ?_⟩; have n0_ := Aside0.mk (KeepBut.trans (by repeat (first | (with_reducible first | exact HK.out | apply KeepBut.set_ | apply keep_drewN | apply keep_drew | apply keep_alloc) | exact HK.out)) hk (.inl rfl)); have n1_ := Aside0.mk (hb); have n2_ := Aside0.mk (hi); clear HK; clear HB; clear HI0; have HK := n0_; have HB := n1_; have HI0 := n2_; clear n0_ n1_ n2_; (try clear hb); (try clear hb2); (try clear hk); (try clear hi)) | ((with_reducible refine gate_callee (f := 47) rfl ?_); refine goesL_ (some 15) rfl rfl Try.func47 (by kernel_rfl) rfl #[.pointer (some ⟨g, 0, none⟩)] rfl (by (try simp only [List.map_toArray, List.map_cons, List.map_nil]); first | done | rfl | (simp only [List.length_drop, List.length_take]; rfl)) ?_; (with_reducible refine (spec_l00Src_next.calls g s0_0 t103 t104 t105 t106 t107 w0 _ ?side1 ?side2 A6.out).mono ?_); (case side1 => repeat (first | (with_reducible first | exact HI0.out | apply IsS66.alloc | apply IsS66.drewN | apply IsS66.drew | apply IsS66.set_1 | apply IsS66.set_2) | exact HI0.out)); (case side2 => repeat (first | (with_reducible first | exact HB.out | apply below_alloc | apply pw_below_drewN | apply below_drew1 | refine below_set ?_ (IsS66.ge HI0.out)) | exact HB.out)); rintro e w9 ⟨rfl, hi, hb, hk⟩; refine ⟨_, rfl, ?_⟩; have n0_ := Aside0.mk (KeepBut.trans (by repeat (first | (with_reducible first | exact HK.out | apply KeepBut.set_ | apply keep_drewN | apply keep_drew | apply keep_alloc) | exact HK.out)) hk (.inl rfl)); have n1_ := Aside0.mk (hb); have n2_ := Aside0.mk (hi); clear HK; clear HB; clear HI0; have HK := n0_; have HB := n1_; have HI0 := n2_; clear n0_ n1_ n2_; (try clear hb); (try clear hb2); (try clear hk); (try clear hi)))
    go_ret
    exact ⟨by first | rfl | (simp [errW_none, errW_some] <;> rfl) | (simp [*, errW_none, errW_some] <;> rfl), by repeat (first | (with_reducible first | exact HI0.out | apply IsS66.alloc | apply IsS66.drewN | apply IsS66.drew | apply IsS66.set_1 | apply IsS66.set_2) | exact HI0.out), by repeat (first | (with_reducible first | exact HB.out | apply below_alloc | apply pw_below_drewN | apply below_drew1 | refine below_set ?_ (IsS66.ge HI0.out)) | exact HB.out), by repeat (first | (with_reducible first | exact HK.out | apply KeepBut.set_ | apply keep_drewN | apply keep_drew | apply keep_alloc) | exact HK.out)⟩
  ·rw [if_neg c5] at H
   have c5b0 : decide (200 < a1) = false := decide_eq_false c5
   clear c5
   by_cases c10 : a1 = 0
   ·rw [if_pos c10] at H
    exact absurd H (by simp)
   ·rw [if_neg c10] at H
    have c10b0 : (a1 == 0) = false := beq_eq_false_iff_ne.mpr c10
    have c10b1 : (a1 != 0) = true := bne_iff_ne.mpr c10
    simp only [Option.some.injEq, Prod.mk.injEq] at H
    obtain ⟨rfl, rfl, rfl⟩ := H
    go_enter Try.func24, Try.ntmps24
    go_wp2_with (first | ((with_reducible refine gate_callee (f := 47) rfl ?_); refine goesL_ (some 9) rfl rfl Try.func47 (by kernel_rfl) rfl #[.pointer (some ⟨g, 0, none⟩)] rfl (by (try simp only [List.map_toArray, List.map_cons, List.map_nil]); first | done | rfl | (simp only [List.length_drop, List.length_take]; rfl)) ?_; (with_reducible refine (spec_l00Src_next.calls g s0_0 s0_1 s0_2 t102 t103 t104 w0 _ ?side1 ?side2 A4.out).mono ?_); (case side1 => repeat (first | (with_reducible first | exact HI0.out | apply IsS66.alloc | apply IsS66.drewN | apply IsS66.drew | apply IsS66.set_1 | apply IsS66.set_2) | exact HI0.out)); (case side2 => repeat (first | (with_reducible first | exact HB.out | apply below_alloc | apply pw_below_drewN | apply below_drew1 | refine below_set ?_ (IsS66.ge HI0.out)) | exact HB.out)); rintro e w11 ⟨rfl, hi, hb, hk⟩; refine ⟨_, rfl, ?_⟩; have n0_ := Aside0.mk (KeepBut.trans (by repeat (first | (with_reducible first | exact HK.out | apply KeepBut.set_ | apply keep_drewN | apply keep_drew | apply keep_alloc) | exact HK.out)) hk (.inl rfl)); have n1_ := Aside0.mk (hb); have n2_ := Aside0.mk (hi); clear HK; clear HB; clear HI0; have HK := n0_; have HB := n1_; have HI0 := n2_; clear n0_ n1_ n2_; (try clear hb); (try clear hb2); (try clear hk); (try clear hi)))
    go_ret
    exact ⟨by first | rfl | (simp [errW_none, errW_some] <;> rfl) | (simp [*, errW_none, errW_some] <;> rfl), by repeat (first | (with_reducible first | exact HI0.out | apply IsS66.alloc | apply IsS66.drewN | apply IsS66.drew | apply IsS66.set_1 | apply IsS66.set_2) | exact HI0.out), by repeat (first | (with_reducible first | exact HB.out | apply below_alloc | apply pw_below_drewN | apply below_drew1 | refine below_set ?_ (IsS66.ge HI0.out)) | exact HB.out), by repeat (first | (with_reducible first | exact HK.out | apply KeepBut.set_ | apply keep_drewN | apply keep_drew | apply keep_alloc) | exact HK.out)⟩

end Go.Proofs.Ytokeeplkbgdokaa.Pq

/- Functions of the program as Lean functions, each with a proof that a call of it comes to just that. Written by this session's program wip/tools/myprint.py. -/
namespace Go.Proofs.Ytokeeplkbgdokaa.Pq
open Go.RowKit Go.Proofs.YtokeeplkbgdokaaW.PrintWords Go.Proofs.YtokeeplkbgdokaaW.PrintLast Go.Proofs.YtokeeplkbgdokaaW.PrintMore
attribute [local go_sem] max2_int min2_int max_two min_two max_three min_three max_four min_four   -- for this text's walks alone
set_option linter.unusedVariables false
set_option linter.unusedSimpArgs false

/-! ### spec_l07Drawn: function 22 -/
def spec_l07Drawn.l0 : Nat → List (S40) → Int → List Int → Int → Int → Option ((List (S40)) × Int × Int)
 | 0, _, _, _, _, _ => none
 | k + 1, x3, x4, x1000, x1001, x1002 => if x4 > 0 then ((spec_l00Src_pick.f x1000 x1001 x1002 30).bind fun bt114 => ((spec_l00Src_pick.f x1000 bt114.2.1 bt114.2.2 5).bind fun bt117 => ((spec_l00Src_pick.f x1000 bt117.2.1 bt117.2.2 6).bind fun bt121 => ((spec_l00Src_pick.f x1000 bt121.2.1 bt121.2.2 8).bind fun bt124 => (if x3.length < 17592186044416 then (spec_l07Drawn.l0 k (x3 ++ [(⟨IntKind.i16.wrap (bt114.1), IntKind.i16.wrap (bt117.1), IntKind.i16.wrap (bt121.1), IntKind.i16.wrap (bt124.1)⟩ : S40)]) (wrap64 (x4 - 1)) x1000 bt124.2.1 bt124.2.2) else (none)))))) else (some (x3, x1001, x1002))
def spec_l07Drawn.f (k : Nat) (s0_0 : List Int) (s0_1 : Int) (s0_2 : Int) : Option ((List (S40)) × Int × Int) := (spec_l00Src_pick.f s0_0 s0_1 s0_2 5).bind fun bt111 => (spec_l07Drawn.l0 k (([] : List (S40))) bt111.1 s0_0 bt111.2.1 bt111.2.2)
theorem spec_l07Drawn.mono_l : ∀ k, (∀ y0 y1 y2 y3 y4, LeO (spec_l07Drawn.l0 k y0 y1 y2 y3 y4) (spec_l07Drawn.l0 (k + 1) y0 y1 y2 y3 y4))
 | 0 => fun _ _ _ _ _ r h => by simp [spec_l07Drawn.l0] at h
 | k + 1 => by
  have ih0 := spec_l07Drawn.mono_l k
  ·intro y0 y1 y2 y3 y4
   unfold spec_l07Drawn.l0
   repeat' first
   | (with_reducible exact ih0 _ _ _ _ _)
   | (with_reducible exact LeO.refl _)
   | (with_reducible exact LeO.none _)
   | (with_reducible refine LeO.ite ?_ ?_)
   | (with_reducible refine LeO.bind ?_ (fun _ => ?_))
   | exact ih0 _ _ _ _ _
   | exact LeO.none _
   | refine LeO.ite ?_ ?_
   | refine LeO.bind ?_ (fun _ => ?_)
theorem spec_l07Drawn.mono : ∀ a0 a1 a2 k, LeO (spec_l07Drawn.f k a0 a1 a2) (spec_l07Drawn.f (k + 1) a0 a1 a2) := by
 intro a0 a1 a2 k
 have ih0 := spec_l07Drawn.mono_l k
 unfold spec_l07Drawn.f
 repeat' first
   | (with_reducible exact ih0 _ _ _ _ _)
   | (with_reducible exact LeO.refl _)
   | (with_reducible exact LeO.none _)
   | (with_reducible refine LeO.ite ?_ ?_)
   | (with_reducible refine LeO.bind ?_ (fun _ => ?_))
   | exact ih0 _ _ _ _ _
   | exact LeO.none _
   | refine LeO.ite ?_ ?_
   | refine LeO.bind ?_ (fun _ => ?_)
set_option maxHeartbeats 8000000 in
set_option maxRecDepth 100000 in
theorem spec_l07Drawn.calls (k : Nat) (g : Nat) (s0_0 : List Int) (s0_1 : Int) (s0_2 : Int) (r1 : List (S40)) (r2 : Int) (r3 : Int) (w0 w : World) (hI : IsS66 w0 w g s0_0 s0_1 s0_2) (hB : Below w0.heap.size w0 w) (h : spec_l07Drawn.f k s0_0 s0_1 s0_2 = some (r1, r2, r3)) :
  Calls Try.prog 22 #[.pointer (some ⟨g, 0, none⟩)] w fun e w' => ∃ v0_ : Value, e = .returned (v0_) ∧ Kd.R k40 40 w' w.heap.size (fun _ => True) v0_ r1 ∧ IsS66 w0 w' g s0_0 r2 r3 ∧ Below w0.heap.size w0 w' ∧ KeepBut w w' g none := by
 have hu40 := Try.underlying40
 have HI0 := Aside0.mk hI
 have HK := Aside0.mk (KeepBut.refl w g none)
 have HL := Aside0.mk hB.size
 clear hI
 have HW0 := Aside0.mk hB.size
 have HB := Aside0.mk hB
 clear hB
 have H : ((spec_l00Src_pick.f s0_0 s0_1 s0_2 5).bind fun bt111 => (spec_l07Drawn.l0 k (([] : List (S40))) bt111.1 s0_0 bt111.2.1 bt111.2.2)) = some (r1, r2, r3) := h
 clear h
 obtain ⟨y108, hy108⟩ : ∃ y_ : List (S40), y_ = (([] : List (S40))) := ⟨_, rfl⟩
 replace H : ((spec_l00Src_pick.f s0_0 s0_1 s0_2 5).bind fun bt111 => (spec_l07Drawn.l0 k y108 bt111.1 s0_0 bt111.2.1 bt111.2.2)) = some (r1, r2, r3) := by first | (rw [hy108]; with_reducible exact H) | (have H2_ := (Option.bind_some _ _).symm.trans H; rw [hy108]; with_reducible exact H2_) | (have H2_ := (Option.bind_some _ _).symm.trans H; with_reducible exact H2_) | with_reducible exact H | (rw [hy108]; exact H) | exact H
 have Ny108 := Aside0.mk hy108
 clear hy108
 replace H := Option.bind_eq_some_iff.mp H
 obtain ⟨⟨t111, t112, t113⟩, A20, H⟩ := H
 replace H : (spec_l07Drawn.l0 k y108 t111 s0_0 t112 t113) = some (r1, r2, r3) := H
 have A2 := Aside0.mk A20
 clear A20
 have H' := Aside0.mk H
 clear H
 go_enter Try.func22, Try.ntmps22
 go_wp2_with (first | ((with_reducible refine gate_dst (N := 6) rfl ?_); refine Kd.R_lit k40 _ 40 ?hg (N := 6) ?hd (xs := ([] : List (S40))) (inner := []) (ok := fun _ => True) (okp := fun _ => True) ?hr ?hp (fun _ hk => hk) trivial (Below.refl _ _) (Nat.le_refl _) (by simp) ?_; (case hd => rfl); (case hg => rfl); (case hr => first | (go_simp; done) | (go_simp; rfl)); (case hp => exact (Reps.none _ _)); intro v109 w3 ho4 hb hg_ hnew_; clear hg_ hnew_; (first | rw [← Ny108.out] at ho4 | (simp only [Int.reduceToNat] at ho4; rw [← Ny108.out] at ho4)); have n0_ := Aside0.mk (Kd.R_lower ho4 (keep_size (w := w) (g := g) (row := none) (by repeat (first | (with_reducible first | exact HK.out | apply KeepBut.set_ | apply keep_drewN | apply keep_drew | apply keep_alloc) | exact HK.out)))); have n1_ := Aside0.mk (IsS66.below (by repeat (first | (with_reducible first | exact HI0.out | apply IsS66.alloc | apply IsS66.drewN | apply IsS66.drew | apply IsS66.set_1 | apply IsS66.set_2) | exact HI0.out)) hb); have n2_ := Aside0.mk (KeepBut.trans (by repeat (first | (with_reducible first | exact HK.out | apply KeepBut.set_ | apply keep_drewN | apply keep_drew | apply keep_alloc) | exact HK.out)) (KeepBut.of_below hb g none) (.inl rfl)); have n3_ := Aside0.mk (below_step (by repeat (first | (with_reducible first | exact HB.out | apply below_alloc | apply pw_below_drewN | apply below_drew1 | refine below_set ?_ (IsS66.ge HI0.out)) | exact HB.out)) hb); clear HI0; clear HK; clear HB; have HO110 := n0_; have HI0 := n1_; have HK := n2_; have HB := n3_; clear n0_ n1_ n2_ n3_; clear hb ho4) | ((with_reducible refine gate_callee (f := 24) rfl ?_); refine goesL_ (some 8) rfl rfl Try.func24 (by kernel_rfl) rfl #[.pointer (some ⟨g, 0, none⟩), .int .i64 5] rfl (by (try simp only [List.map_toArray, List.map_cons, List.map_nil]); first | done | rfl | (simp only [List.length_drop, List.length_take]; rfl)) ?_; (with_reducible refine (spec_l00Src_pick.calls g s0_0 s0_1 s0_2 5 t111 t112 t113 w0 _ ?side1 ?side2 A2.out).mono ?_); (case side1 => repeat (first | (with_reducible first | exact HI0.out | apply IsS66.alloc | apply IsS66.drewN | apply IsS66.drew | apply IsS66.set_1 | apply IsS66.set_2) | exact HI0.out)); (case side2 => repeat (first | (with_reducible first | exact HB.out | apply below_alloc | apply pw_below_drewN | apply below_drew1 | refine below_set ?_ (IsS66.ge HI0.out)) | exact HB.out)); rintro e w5 ⟨rfl, hi, hb, hk⟩; refine ⟨_, rfl, ?_⟩; have n0_ := Aside0.mk (Kd.R_mono (Kd.R_keep (IsS66.apart (show IsS66 w0 _ g s0_0 s0_1 s0_2 from by repeat (first | (with_reducible first | exact HI0.out | apply IsS66.alloc | apply IsS66.drewN | apply IsS66.drew | apply IsS66.set_1 | apply IsS66.set_2) | exact HI0.out)) (by (with_reducible repeat (first | apply Kd.R_alloc | apply Kd.R_drewN | apply Kd.R_drew)); exact HO110.out) (by decide)) hk (fun _ h => h.2)) (fun _ h => h.1)); have n1_ := Aside0.mk (KeepBut.trans (by repeat (first | (with_reducible first | exact HK.out | apply KeepBut.set_ | apply keep_drewN | apply keep_drew | apply keep_alloc) | exact HK.out)) hk (.inl rfl)); have n2_ := Aside0.mk (hb); have n3_ := Aside0.mk (hi); clear HO110; clear HK; clear HB; clear HI0; have HO110 := n0_; have HK := n1_; have HB := n2_; have HI0 := n3_; clear n0_ n1_ n2_ n3_; (try clear hb); (try clear hb2); (try clear hk); (try clear hi)))
 go_loopg [3, 4] k (fun kq v3 v4 w' => ∃ (x3_1 : List (S40)) (x4_1 : Int) (x1001_1 : Int) (x1002_1 : Int), v4 = .int .i64 x4_1 ∧ Aside0 (spec_l07Drawn.l0 kq x3_1 x4_1 s0_0 x1001_1 x1002_1 = some (r1, r2, r3)) ∧ Aside0 (kq ≤ k) ∧ Aside0 (Kd.R k40 40 w' w.heap.size (fun _ => True) v3 x3_1) ∧ Aside0 (IsS66 w0 w' g s0_0 x1001_1 x1002_1) ∧ Aside0 (KeepBut w w' g none) ∧ Aside0 (Below w0.heap.size w0 w'))
 case atStart => exact ⟨(y108), (t111), (t112), (t113), (by first | rfl | (simp; done) | (simp [*]; done)), H', ⟨Nat.le_refl _⟩, ⟨by (with_reducible repeat (first | apply Kd.R_alloc | apply Kd.R_drewN | apply Kd.R_drew)); exact HO110.out⟩, ⟨by repeat (first | (with_reducible first | exact HI0.out | apply IsS66.alloc | apply IsS66.drewN | apply IsS66.drew | apply IsS66.set_1 | apply IsS66.set_2) | exact HI0.out)⟩, ⟨by repeat (first | (with_reducible first | exact HK.out | apply KeepBut.set_ | apply keep_drewN | apply keep_drew | apply keep_alloc) | exact HK.out)⟩, ⟨by repeat (first | (with_reducible first | exact HB.out | apply below_alloc | apply pw_below_drewN | apply below_drew1 | refine below_set ?_ (IsS66.ge HI0.out)) | exact HB.out)⟩⟩
 case round =>
  clear H'
  try clear c2
  try clear p2
  obtain ⟨x3_1, x4_1, x1001_1, x1002_1, rfl, HA, HK1, HO_3, HI0, HK, HB⟩ := hrel
  cases gk with
  | zero => exact absurd HA.out (by simp [spec_l07Drawn.l0])
  | succ k1 =>
   have H := HA.out
   clear HA
   simp only [spec_l07Drawn.l0] at H
   by_cases c6 : x4_1 > 0
   ·rw [if_pos c6] at H
    have c6b0 : decide (0 < x4_1) = true := decide_eq_true c6
    clear c6
    replace H := Option.bind_eq_some_iff.mp H
    obtain ⟨⟨t114, t115, t116⟩, A70, H⟩ := H
    replace H : ((spec_l00Src_pick.f s0_0 t115 t116 5).bind fun bt117 => ((spec_l00Src_pick.f s0_0 bt117.2.1 bt117.2.2 6).bind fun bt121 => ((spec_l00Src_pick.f s0_0 bt121.2.1 bt121.2.2 8).bind fun bt124 => (if x3_1.length < 17592186044416 then (spec_l07Drawn.l0 k1 (x3_1 ++ [(⟨IntKind.i16.wrap (t114), IntKind.i16.wrap (bt117.1), IntKind.i16.wrap (bt121.1), IntKind.i16.wrap (bt124.1)⟩ : S40)]) (wrap64 (x4_1 - 1)) s0_0 bt124.2.1 bt124.2.2) else (none))))) = some (r1, r2, r3) := H
    have A7 := Aside0.mk A70
    clear A70
    replace H := Option.bind_eq_some_iff.mp H
    obtain ⟨⟨t117, t118, t119⟩, A80, H⟩ := H
    replace H : ((spec_l00Src_pick.f s0_0 t118 t119 6).bind fun bt121 => ((spec_l00Src_pick.f s0_0 bt121.2.1 bt121.2.2 8).bind fun bt124 => (if x3_1.length < 17592186044416 then (spec_l07Drawn.l0 k1 (x3_1 ++ [(⟨IntKind.i16.wrap (t114), IntKind.i16.wrap (t117), IntKind.i16.wrap (bt121.1), IntKind.i16.wrap (bt124.1)⟩ : S40)]) (wrap64 (x4_1 - 1)) s0_0 bt124.2.1 bt124.2.2) else (none)))) = some (r1, r2, r3) := H
    have A8 := Aside0.mk A80
    clear A80
    replace H := Option.bind_eq_some_iff.mp H
    obtain ⟨⟨t121, t122, t123⟩, A90, H⟩ := H
    replace H : ((spec_l00Src_pick.f s0_0 t122 t123 8).bind fun bt124 => (if x3_1.length < 17592186044416 then (spec_l07Drawn.l0 k1 (x3_1 ++ [(⟨IntKind.i16.wrap (t114), IntKind.i16.wrap (t117), IntKind.i16.wrap (t121), IntKind.i16.wrap (bt124.1)⟩ : S40)]) (wrap64 (x4_1 - 1)) s0_0 bt124.2.1 bt124.2.2) else (none))) = some (r1, r2, r3) := H
    have A9 := Aside0.mk A90
    clear A90
    replace H := Option.bind_eq_some_iff.mp H
    obtain ⟨⟨t124, t125, t126⟩, A100, H⟩ := H
    replace H : (if x3_1.length < 17592186044416 then (spec_l07Drawn.l0 k1 (x3_1 ++ [(⟨IntKind.i16.wrap (t114), IntKind.i16.wrap (t117), IntKind.i16.wrap (t121), IntKind.i16.wrap (t124)⟩ : S40)]) (wrap64 (x4_1 - 1)) s0_0 t125 t126) else (none)) = some (r1, r2, r3) := H
    have A10 := Aside0.mk A100
    clear A100
    by_cases c11 : x3_1.length < 17592186044416
    ·rw [if_pos c11] at H
     have LMc11 := Aside0.mk c11
     clear c11
     obtain ⟨y127, hy127⟩ : ∃ y_ : List (S40), y_ = (x3_1 ++ [(⟨IntKind.i16.wrap (t114), IntKind.i16.wrap (t117), IntKind.i16.wrap (t121), IntKind.i16.wrap (t124)⟩ : S40)]) := ⟨_, rfl⟩
     replace H : (spec_l07Drawn.l0 k1 y127 (wrap64 (x4_1 - 1)) s0_0 t125 t126) = some (r1, r2, r3) := by first | (rw [hy127]; with_reducible exact H) | (have H2_ := (Option.bind_some _ _).symm.trans H; rw [hy127]; with_reducible exact H2_) | (have H2_ := (Option.bind_some _ _).symm.trans H; with_reducible exact H2_) | with_reducible exact H | (rw [hy127]; exact H) | exact H
     have Ny127 := Aside0.mk hy127
     clear hy127
     have H' := Aside0.mk H
     clear H
     go_wp2_with (first | ((with_reducible refine gate_callee (f := 24) rfl ?_); refine goesL_ (some 14) rfl rfl Try.func24 (by kernel_rfl) rfl #[.pointer (some ⟨g, 0, none⟩), .int .i64 30] rfl (by (try simp only [List.map_toArray, List.map_cons, List.map_nil]); first | done | rfl | (simp only [List.length_drop, List.length_take]; rfl)) ?_; (with_reducible refine (spec_l00Src_pick.calls g s0_0 x1001_1 x1002_1 30 t114 t115 t116 w0 _ ?side1 ?side2 A7.out).mono ?_); (case side1 => repeat (first | (with_reducible first | exact HI0.out | apply IsS66.alloc | apply IsS66.drewN | apply IsS66.drew | apply IsS66.set_1 | apply IsS66.set_2) | exact HI0.out)); (case side2 => repeat (first | (with_reducible first | exact HB.out | apply below_alloc | apply pw_below_drewN | apply below_drew1 | refine below_set ?_ (IsS66.ge HI0.out)) | exact HB.out)); rintro e w12 ⟨rfl, hi, hb, hk⟩; refine ⟨_, rfl, ?_⟩; have n0_ := Aside0.mk (Kd.R_mono (Kd.R_keep (IsS66.apart (show IsS66 w0 _ g s0_0 x1001_1 x1002_1 from by repeat (first | (with_reducible first | exact HI0.out | apply IsS66.alloc | apply IsS66.drewN | apply IsS66.drew | apply IsS66.set_1 | apply IsS66.set_2) | exact HI0.out)) (by (with_reducible repeat (first | apply Kd.R_alloc | apply Kd.R_drewN | apply Kd.R_drew)); exact HO_3.out) (by decide)) hk (fun _ h => h.2)) (fun _ h => h.1)); have n1_ := Aside0.mk (KeepBut.trans (by repeat (first | (with_reducible first | exact HK.out | apply KeepBut.set_ | apply keep_drewN | apply keep_drew | apply keep_alloc) | exact HK.out)) hk (.inl rfl)); have n2_ := Aside0.mk (hb); have n3_ := Aside0.mk (hi); clear HO_3; clear HK; clear HB; clear HI0; have HO_3 := n0_; have HK := n1_; have HB := n2_; have HI0 := n3_; clear n0_ n1_ n2_ n3_; (try clear hb); (try clear hb2); (try clear hk); (try clear hi)) | ((with_reducible refine gate_callee (f := 24) rfl ?_); refine goesL_ (some 17) rfl rfl Try.func24 (by kernel_rfl) rfl #[.pointer (some ⟨g, 0, none⟩), .int .i64 5] rfl (by (try simp only [List.map_toArray, List.map_cons, List.map_nil]); first | done | rfl | (simp only [List.length_drop, List.length_take]; rfl)) ?_; (with_reducible refine (spec_l00Src_pick.calls g s0_0 t115 t116 5 t117 t118 t119 w0 _ ?side1 ?side2 A8.out).mono ?_); (case side1 => repeat (first | (with_reducible first | exact HI0.out | apply IsS66.alloc | apply IsS66.drewN | apply IsS66.drew | apply IsS66.set_1 | apply IsS66.set_2) | exact HI0.out)); (case side2 => repeat (first | (with_reducible first | exact HB.out | apply below_alloc | apply pw_below_drewN | apply below_drew1 | refine below_set ?_ (IsS66.ge HI0.out)) | exact HB.out)); rintro e w13 ⟨rfl, hi, hb, hk⟩; refine ⟨_, rfl, ?_⟩; have n0_ := Aside0.mk (Kd.R_mono (Kd.R_keep (IsS66.apart (show IsS66 w0 _ g s0_0 t115 t116 from by repeat (first | (with_reducible first | exact HI0.out | apply IsS66.alloc | apply IsS66.drewN | apply IsS66.drew | apply IsS66.set_1 | apply IsS66.set_2) | exact HI0.out)) (by (with_reducible repeat (first | apply Kd.R_alloc | apply Kd.R_drewN | apply Kd.R_drew)); exact HO_3.out) (by decide)) hk (fun _ h => h.2)) (fun _ h => h.1)); have n1_ := Aside0.mk (KeepBut.trans (by repeat (first | (with_reducible first | exact HK.out | apply KeepBut.set_ | apply keep_drewN | apply keep_drew | apply keep_alloc) | exact HK.out)) hk (.inl rfl)); have n2_ := Aside0.mk (hb); have n3_ := Aside0.mk (hi); clear HO_3; clear HK; clear HB; clear HI0; have HO_3 := n0_; have HK := n1_; have HB := n2_; have HI0 := n3_; clear n0_ n1_ n2_ n3_; (try clear hb); (try clear hb2); (try clear hk); (try clear hi)) | ((with_reducible refine gate_dst (N := 5) rfl ?_); refine box_event ?hg (N := 5) ?hd (cs := #[.int .i16 0, .int .i16 0, .int .i16 0, .int .i16 0]) (t := 40) ?hr ?_; (case hd => rfl); (case hg => rfl); (case hr => first | (go_simp; done) | (go_simp; rfl)); intro gb120 hg w14 hbox hb; have n0_ := Aside0.mk (Kd.R_below (Kd.R_elderB (by (with_reducible repeat (first | apply Kd.R_alloc | apply Kd.R_drewN | apply Kd.R_drew)); exact HO_3.out) gb120 (Nat.le_of_eq hg.symm)) hb); have n1_ := Aside0.mk (IsS66.below (by repeat (first | (with_reducible first | exact HI0.out | apply IsS66.alloc | apply IsS66.drewN | apply IsS66.drew | apply IsS66.set_1 | apply IsS66.set_2) | exact HI0.out)) hb); have n2_ := Aside0.mk (KeepBut.trans (by repeat (first | (with_reducible first | exact HK.out | apply KeepBut.set_ | apply keep_drewN | apply keep_drew | apply keep_alloc) | exact HK.out)) (KeepBut.of_below hb g none) (.inl rfl)); have n3_ := Aside0.mk (below_step (by repeat (first | (with_reducible first | exact HB.out | apply below_alloc | apply pw_below_drewN | apply below_drew1 | refine below_set ?_ (IsS66.ge HI0.out)) | exact HB.out)) hb); have n4_ := Aside0.mk (hbox); have n5_ := Aside0.mk ((by rw [hg]; exact (keep_size (w := w) (g := g) (row := none) (by repeat (first | (with_reducible first | exact HK.out | apply KeepBut.set_ | apply keep_drewN | apply keep_drew | apply keep_alloc) | exact HK.out))) : w.heap.size ≤ gb120)); have n6_ := Aside0.mk ((Nat.le_trans HW0.out (by rw [hg]; exact (keep_size (w := w) (g := g) (row := none) (by repeat (first | (with_reducible first | exact HK.out | apply KeepBut.set_ | apply keep_drewN | apply keep_drew | apply keep_alloc) | exact HK.out))) : w.heap.size ≤ gb120) : w0.heap.size ≤ gb120)); have n7_ := Aside0.mk ((by rw [hg]; exact Nat.ne_of_lt (IsS66.lt (show IsS66 w0 _ g s0_0 t118 t119 from by repeat (first | (with_reducible first | exact HI0.out | apply IsS66.alloc | apply IsS66.drewN | apply IsS66.drew | apply IsS66.set_1 | apply IsS66.set_2) | exact HI0.out))) : g ≠ gb120)); have n8_ := Aside0.mk ((by rw [hg]; exact Nat.ne_of_gt (IsS66.lt (show IsS66 w0 _ g s0_0 t118 t119 from by repeat (first | (with_reducible first | exact HI0.out | apply IsS66.alloc | apply IsS66.drewN | apply IsS66.drew | apply IsS66.set_1 | apply IsS66.set_2) | exact HI0.out))) : gb120 ≠ g)); clear HO_3; clear HI0; clear HK; clear HB; have HO_3 := n0_; have HI0 := n1_; have HK := n2_; have HB := n3_; have BK120 := n4_; have GW120 := n5_; have GE120 := n6_; have NB0_120 := n7_; have NB120_0 := n8_; clear n0_ n1_ n2_ n3_ n4_ n5_ n6_ n7_ n8_; clear hb hbox hg; have hnb15 := NB120_0.out; have hnc15 := NB0_120.out; have hcz16_0 : w14.cell? ⟨gb120, 0, none⟩ = some (.int .i16 0) := (blk_cell BK120.out 0).trans rfl; have hcz16_1 : w14.cell? ⟨gb120, 1, none⟩ = some (.int .i16 0) := (blk_cell BK120.out 1).trans rfl; have hcz16_2 : w14.cell? ⟨gb120, 2, none⟩ = some (.int .i16 0) := (blk_cell BK120.out 2).trans rfl; have hcz16_3 : w14.cell? ⟨gb120, 3, none⟩ = some (.int .i16 0) := (blk_cell BK120.out 3).trans rfl; have hfz16_0 := blk_frozen BK120.out 0; have hfz16_1 := blk_frozen BK120.out 1; have hfz16_2 := blk_frozen BK120.out 2; have hfz16_3 := blk_frozen BK120.out 3) | ((with_reducible refine gate_callee (f := 24) rfl ?_); refine goesL_ (some 21) rfl rfl Try.func24 (by kernel_rfl) rfl #[.pointer (some ⟨g, 0, none⟩), .int .i64 6] rfl (by (try simp only [List.map_toArray, List.map_cons, List.map_nil]); first | done | rfl | (simp only [List.length_drop, List.length_take]; rfl)) ?_; (with_reducible refine (spec_l00Src_pick.calls g s0_0 t118 t119 6 t121 t122 t123 w0 _ ?side1 ?side2 A9.out).mono ?_); (case side1 => repeat (first | (with_reducible first | exact HI0.out | apply IsS66.alloc | apply IsS66.drewN | apply IsS66.drew | apply IsS66.set_1 | apply IsS66.set_2 | exact IsS66.far HI0.out NB0_120.out _ | refine IsS66.far ?_ NB0_120.out _) | exact HI0.out)); (case side2 => repeat (first | (with_reducible first | exact HB.out | apply below_alloc | apply pw_below_drewN | apply below_drew1 | refine below_set ?_ (IsS66.ge HI0.out) | refine below_set ?_ GE120.out) | exact HB.out)); rintro e w17 ⟨rfl, hi, hb, hk⟩; refine ⟨_, rfl, ?_⟩; have n0_ := Aside0.mk (Kd.R_mono (Kd.R_keep (IsS66.apart (show IsS66 w0 _ g s0_0 t118 t119 from by repeat (first | (with_reducible first | exact HI0.out | apply IsS66.alloc | apply IsS66.drewN | apply IsS66.drew | apply IsS66.set_1 | apply IsS66.set_2 | exact IsS66.far HI0.out NB0_120.out _ | refine IsS66.far ?_ NB0_120.out _) | exact HI0.out)) (by (with_reducible repeat (first | apply Kd.R_alloc | apply Kd.R_drewN | apply Kd.R_drew)); exact (Kd.R_mono (Kd.R_far (p := ⟨gb120, 3, none⟩) (Kd.R_far (p := ⟨gb120, 2, none⟩) (Kd.R_far (p := ⟨gb120, 1, none⟩) (Kd.R_far (p := ⟨gb120, 0, none⟩) (Kd.R_mono HO_3.out (fun k_ hk => (⟨hk, hk.2⟩ : _ ∧ k_ ≠ gb120))) (fun _ hk => hk.2) (.int .i16 (IntKind.i16.wrap (t114)))) (fun _ hk => hk.2) (.int .i16 (IntKind.i16.wrap (t117)))) (fun _ hk => hk.2) (.int .i16 0)) (fun _ hk => hk.2) (.int .i16 0)) (fun _ h_ => h_.1))) (by decide)) hk (fun _ h => h.2)) (fun _ h => h.1)); have n1_ := Aside0.mk (KeepBut.blk hk (g' := gb120) (o := .cells #[.int .i16 (IntKind.i16.wrap (t114)), .int .i16 (IntKind.i16.wrap (t117)), .int .i16 0, .int .i16 0] 40 (0, 0)) (by (with_reducible repeat (first | refine blk_drewN ?_ _ | refine blk_drew ?_ | refine blk_alloc ?_ _)); refine blk_put (cs := #[.int .i16 (IntKind.i16.wrap (t114)), .int .i16 (IntKind.i16.wrap (t117)), .int .i16 0, .int .i16 0]) ?_ 3 _ rfl; (with_reducible repeat (first | refine blk_drewN ?_ _ | refine blk_drew ?_ | refine blk_alloc ?_ _)); refine blk_put (cs := #[.int .i16 (IntKind.i16.wrap (t114)), .int .i16 (IntKind.i16.wrap (t117)), .int .i16 0, .int .i16 0]) ?_ 2 _ rfl; (with_reducible repeat (first | refine blk_drewN ?_ _ | refine blk_drew ?_ | refine blk_alloc ?_ _)); refine blk_put (cs := #[.int .i16 (IntKind.i16.wrap (t114)), .int .i16 0, .int .i16 0, .int .i16 0]) ?_ 1 _ rfl; (with_reducible repeat (first | refine blk_drewN ?_ _ | refine blk_drew ?_ | refine blk_alloc ?_ _)); refine blk_put (cs := #[.int .i16 0, .int .i16 0, .int .i16 0, .int .i16 0]) ?_ 0 _ rfl; (with_reducible repeat (first | refine blk_drewN ?_ _ | refine blk_drew ?_ | refine blk_alloc ?_ _)); exact BK120.out) NB120_0.out (by simp)); have n2_ := Aside0.mk (KeepBut.trans (by repeat (first | (with_reducible first | exact HK.out | apply KeepBut.set_ | apply keep_drewN | apply keep_drew | apply keep_alloc | refine keep_far ?_ GW120.out _) | exact HK.out)) hk (.inl rfl)); have n3_ := Aside0.mk (hb); have n4_ := Aside0.mk (hi); clear HO_3; clear BK120; clear HK; clear HB; clear HI0; have HO_3 := n0_; have BK120 := n1_; have HK := n2_; have HB := n3_; have HI0 := n4_; clear n0_ n1_ n2_ n3_ n4_; (try clear hb); (try clear hb2); (try clear hk); (try clear hi); have hcz18_0 : w17.cell? ⟨gb120, 0, none⟩ = some (.int .i16 (IntKind.i16.wrap (t114))) := (blk_cell BK120.out 0).trans rfl; have hcz18_1 : w17.cell? ⟨gb120, 1, none⟩ = some (.int .i16 (IntKind.i16.wrap (t117))) := (blk_cell BK120.out 1).trans rfl; have hcz18_2 : w17.cell? ⟨gb120, 2, none⟩ = some (.int .i16 0) := (blk_cell BK120.out 2).trans rfl; have hcz18_3 : w17.cell? ⟨gb120, 3, none⟩ = some (.int .i16 0) := (blk_cell BK120.out 3).trans rfl; have hfz18_0 := blk_frozen BK120.out 0; have hfz18_1 := blk_frozen BK120.out 1; have hfz18_2 := blk_frozen BK120.out 2; have hfz18_3 := blk_frozen BK120.out 3) | ((with_reducible refine gate_callee (f := 24) rfl ?_); refine goesL_ (some 25) rfl rfl Try.func24 (by kernel_rfl) rfl #[.pointer (some ⟨g, 0, none⟩), .int .i64 8] rfl (by (try simp only [List.map_toArray, List.map_cons, List.map_nil]); first | done | rfl | (simp only [List.length_drop, List.length_take]; rfl)) ?_; (with_reducible refine (spec_l00Src_pick.calls g s0_0 t122 t123 8 t124 t125 t126 w0 _ ?side1 ?side2 A10.out).mono ?_); (case side1 => repeat (first | (with_reducible first | exact HI0.out | apply IsS66.alloc | apply IsS66.drewN | apply IsS66.drew | apply IsS66.set_1 | apply IsS66.set_2 | exact IsS66.far HI0.out NB0_120.out _ | refine IsS66.far ?_ NB0_120.out _) | exact HI0.out)); (case side2 => repeat (first | (with_reducible first | exact HB.out | apply below_alloc | apply pw_below_drewN | apply below_drew1 | refine below_set ?_ (IsS66.ge HI0.out) | refine below_set ?_ GE120.out) | exact HB.out)); rintro e w19 ⟨rfl, hi, hb, hk⟩; refine ⟨_, rfl, ?_⟩; have n0_ := Aside0.mk (Kd.R_mono (Kd.R_keep (IsS66.apart (show IsS66 w0 _ g s0_0 t122 t123 from by repeat (first | (with_reducible first | exact HI0.out | apply IsS66.alloc | apply IsS66.drewN | apply IsS66.drew | apply IsS66.set_1 | apply IsS66.set_2 | exact IsS66.far HI0.out NB0_120.out _ | refine IsS66.far ?_ NB0_120.out _) | exact HI0.out)) (by (with_reducible repeat (first | apply Kd.R_alloc | apply Kd.R_drewN | apply Kd.R_drew)); exact (Kd.R_mono (Kd.R_far (p := ⟨gb120, 2, none⟩) (Kd.R_mono HO_3.out (fun k_ hk => (⟨hk, hk.2⟩ : _ ∧ k_ ≠ gb120))) (fun _ hk => hk.2) (.int .i16 (IntKind.i16.wrap (t121)))) (fun _ h_ => h_.1))) (by decide)) hk (fun _ h => h.2)) (fun _ h => h.1)); have n1_ := Aside0.mk (KeepBut.blk hk (g' := gb120) (o := .cells #[.int .i16 (IntKind.i16.wrap (t114)), .int .i16 (IntKind.i16.wrap (t117)), .int .i16 (IntKind.i16.wrap (t121)), .int .i16 0] 40 (0, 0)) (by (with_reducible repeat (first | refine blk_drewN ?_ _ | refine blk_drew ?_ | refine blk_alloc ?_ _)); refine blk_put (cs := #[.int .i16 (IntKind.i16.wrap (t114)), .int .i16 (IntKind.i16.wrap (t117)), .int .i16 0, .int .i16 0]) ?_ 2 _ rfl; (with_reducible repeat (first | refine blk_drewN ?_ _ | refine blk_drew ?_ | refine blk_alloc ?_ _)); exact BK120.out) NB120_0.out (by simp)); have n2_ := Aside0.mk (KeepBut.trans (by repeat (first | (with_reducible first | exact HK.out | apply KeepBut.set_ | apply keep_drewN | apply keep_drew | apply keep_alloc | refine keep_far ?_ GW120.out _) | exact HK.out)) hk (.inl rfl)); have n3_ := Aside0.mk (hb); have n4_ := Aside0.mk (hi); clear HO_3; clear BK120; clear HK; clear HB; clear HI0; have HO_3 := n0_; have BK120 := n1_; have HK := n2_; have HB := n3_; have HI0 := n4_; clear n0_ n1_ n2_ n3_ n4_; (try clear hb); (try clear hb2); (try clear hk); (try clear hi); have hcz20_0 : w19.cell? ⟨gb120, 0, none⟩ = some (.int .i16 (IntKind.i16.wrap (t114))) := (blk_cell BK120.out 0).trans rfl; have hcz20_1 : w19.cell? ⟨gb120, 1, none⟩ = some (.int .i16 (IntKind.i16.wrap (t117))) := (blk_cell BK120.out 1).trans rfl; have hcz20_2 : w19.cell? ⟨gb120, 2, none⟩ = some (.int .i16 (IntKind.i16.wrap (t121))) := (blk_cell BK120.out 2).trans rfl; have hcz20_3 : w19.cell? ⟨gb120, 3, none⟩ = some (.int .i16 0) := (blk_cell BK120.out 3).trans rfl; have hfz20_0 := blk_frozen BK120.out 0; have hfz20_1 := blk_frozen BK120.out 1; have hfz20_2 := blk_frozen BK120.out 2; have hfz20_3 := blk_frozen BK120.out 3) | ((with_reducible refine gate_builtin (b := .append) (xs := #[.tmp 28, .tmp 30]) rfl ?_); at_builtin; refine Kd.R_append k40 w.heap.size rfl (.tmp 28) (.tmp 30) 24 40 (.agg #[(.int .i16 0), (.int .i16 0), (.int .i16 0), (.int .i16 0)]) 8 rfl Try.underlying24 info40 rfl (by decide) (by omega) u3 x3_1 (⟨IntKind.i16.wrap (t114), IntKind.i16.wrap (t117), IntKind.i16.wrap (t121), IntKind.i16.wrap (t124)⟩ : S40) [.int .i16 (IntKind.i16.wrap (t114)), .int .i16 (IntKind.i16.wrap (t117)), .int .i16 (IntKind.i16.wrap (t121)), .int .i16 (IntKind.i16.wrap (t124))] (fun k_ => k_ ≠ gb120) (fun _ => False) rfl (by first | (go_simp; done) | (go_simp; rfl)) ?aP (fun _ hk => hk.elim) ?aF ?aO (Below.refl _ _) ?aS ?aL ?_; (case aP => exact k40_mkM _ _ _ (⟨IntKind.i16.wrap (t114), IntKind.i16.wrap (t117), IntKind.i16.wrap (t121), IntKind.i16.wrap (t124)⟩ : S40)); (case aF => exact (fun k_ hk => Kd.freshB (g := gb120) (o := .cells #[.int .i16 (IntKind.i16.wrap (t114)), .int .i16 (IntKind.i16.wrap (t117)), .int .i16 (IntKind.i16.wrap (t121)), .int .i16 (IntKind.i16.wrap (t124))] 40 (0, 0)) (by (with_reducible repeat (first | refine blk_drewN ?_ _ | refine blk_drew ?_ | refine blk_alloc ?_ _)); refine blk_put (cs := #[.int .i16 (IntKind.i16.wrap (t114)), .int .i16 (IntKind.i16.wrap (t117)), .int .i16 (IntKind.i16.wrap (t121)), .int .i16 0]) ?_ 3 _ rfl; (with_reducible repeat (first | refine blk_drewN ?_ _ | refine blk_drew ?_ | refine blk_alloc ?_ _)); exact BK120.out) k_ hk)); (case aO => exact (by (with_reducible repeat (first | apply Kd.R_alloc | apply Kd.R_drewN | apply Kd.R_drew)); exact Kd.R_mono (Kd.R_far (p := ⟨gb120, 3, none⟩) (Kd.R_mono HO_3.out (fun k_ hk => (⟨hk, hk.2⟩ : _ ∧ k_ ≠ gb120))) (fun _ hk => hk.2) (.int .i16 (IntKind.i16.wrap (t124)))) (fun _ hk => hk.1.2))); (case aS => exact (keep_size (w := w) (g := g) (row := none) (by repeat (first | (with_reducible first | exact HK.out | apply KeepBut.set_ | apply keep_drewN | apply keep_drew | apply keep_alloc | refine keep_far ?_ GW120.out _) | exact HK.out)))); (case aL => have := LMc11.out; omega); intro v128 w21 ho hb hg hat; rw [← Ny127.out] at ho; have n0_ := Aside0.mk (IsS66.grown (by repeat (first | (with_reducible first | exact HI0.out | apply IsS66.alloc | apply IsS66.drewN | apply IsS66.drew | apply IsS66.set_1 | apply IsS66.set_2 | exact IsS66.far HI0.out NB0_120.out _ | refine IsS66.far ?_ NB0_120.out _) | exact HI0.out)) hg (IsS66.own_ne HI0.out HO_3.out (by decide))); have n1_ := Aside0.mk (blk_grown (g := gb120) (o := .cells #[.int .i16 (IntKind.i16.wrap (t114)), .int .i16 (IntKind.i16.wrap (t117)), .int .i16 (IntKind.i16.wrap (t121)), .int .i16 (IntKind.i16.wrap (t124))] 40 (0, 0)) (by (with_reducible repeat (first | refine blk_drewN ?_ _ | refine blk_drew ?_ | refine blk_alloc ?_ _)); refine blk_put (cs := #[.int .i16 (IntKind.i16.wrap (t114)), .int .i16 (IntKind.i16.wrap (t117)), .int .i16 (IntKind.i16.wrap (t121)), .int .i16 0]) ?_ 3 _ rfl; (with_reducible repeat (first | refine blk_drewN ?_ _ | refine blk_drew ?_ | refine blk_alloc ?_ _)); exact BK120.out) hg (Kd.R_away HO_3.out (fun _ hk => hk.2))); have n2_ := Aside0.mk (below_weaken (by repeat (first | (with_reducible first | exact HB.out | apply below_alloc | apply pw_below_drewN | apply below_drew1 | refine below_set ?_ (IsS66.ge HI0.out) | refine below_set ?_ GE120.out) | exact HB.out)) HL.out hb); have n3_ := Aside0.mk (KeepBut.trans (by repeat (first | (with_reducible first | exact HK.out | apply KeepBut.set_ | apply keep_drewN | apply keep_drew | apply keep_alloc | refine keep_far ?_ GW120.out _) | exact HK.out)) (KeepBut.of_grown hg g) (Kd.R_base2 HO_3.out)); have n4_ := Aside0.mk (ho); clear HI0; clear BK120; clear HB; clear HK; clear HO_3; have HI0 := n0_; have BK120 := n1_; have HB := n2_; have HK := n3_; have HO129 := n4_; clear n0_ n1_ n2_ n3_ n4_; clear ho hb hg hat))
     go_roundg k1
     case measure => have := HK1.out; omega
     case rel => exact ⟨(y127), (wrap64 (x4_1 - 1)), (t125), (t126), (by first | rfl | (simp; done) | (simp [*]; done)), H', ⟨by have := HK1.out; omega⟩, ⟨by (with_reducible repeat (first | apply Kd.R_alloc | apply Kd.R_drewN | apply Kd.R_drew)); exact Kd.R_mono HO129.out (fun _ hk => trivial)⟩, ⟨by repeat (first | (with_reducible first | exact HI0.out | apply IsS66.alloc | apply IsS66.drewN | apply IsS66.drew | apply IsS66.set_1 | apply IsS66.set_2 | exact IsS66.far HI0.out NB0_120.out _ | refine IsS66.far ?_ NB0_120.out _) | exact HI0.out)⟩, ⟨by repeat (first | (with_reducible first | exact HK.out | apply KeepBut.set_ | apply keep_drewN | apply keep_drew | apply keep_alloc | refine keep_far ?_ GW120.out _) | exact HK.out)⟩, ⟨by repeat (first | (with_reducible first | exact HB.out | apply below_alloc | apply pw_below_drewN | apply below_drew1 | refine below_set ?_ (IsS66.ge HI0.out) | refine below_set ?_ GE120.out) | exact HB.out)⟩⟩
    ·rw [if_neg c11] at H
     exact absurd H (by simp)
   ·rw [if_neg c6] at H
    have c6b0 : decide (0 < x4_1) = false := decide_eq_false c6
    clear c6
    simp only [Option.some.injEq, Prod.mk.injEq] at H
    obtain ⟨rfl, rfl, rfl⟩ := H
    go_wp2
    go_ret
    exact ⟨_, by first | rfl | (simp [errW_none, errW_some] <;> rfl) | (simp [*, errW_none, errW_some] <;> rfl), by (with_reducible repeat (first | apply Kd.R_alloc | apply Kd.R_drewN | apply Kd.R_drew)); exact HO_3.out, by repeat (first | (with_reducible first | exact HI0.out | apply IsS66.alloc | apply IsS66.drewN | apply IsS66.drew | apply IsS66.set_1 | apply IsS66.set_2) | exact HI0.out), by repeat (first | (with_reducible first | exact HB.out | apply below_alloc | apply pw_below_drewN | apply below_drew1 | refine below_set ?_ (IsS66.ge HI0.out)) | exact HB.out), by repeat (first | (with_reducible first | exact HK.out | apply KeepBut.set_ | apply keep_drewN | apply keep_drew | apply keep_alloc) | exact HK.out)⟩

end Go.Proofs.Ytokeeplkbgdokaa.Pq

/- Functions of the program as Lean functions, each with a proof that a call of it comes to just that. Written by this session's program wip/tools/myprint.py. -/
namespace Go.Proofs.Ytokeeplkbgdokaa.Pq
open Go.RowKit Go.Proofs.YtokeeplkbgdokaaW.PrintWords Go.Proofs.YtokeeplkbgdokaaW.PrintLast Go.Proofs.YtokeeplkbgdokaaW.PrintMore
attribute [local go_sem] max2_int min2_int max_two min_two max_three min_three max_four min_four   -- for this text's walks alone
set_option linter.unusedVariables false
set_option linter.unusedSimpArgs false

/-! ### spec_l00From: function 23 -/
def spec_l00From.f (l0 : List Int) : Option (List Int × Int × Int) := some (l0, 0, 0)
set_option maxHeartbeats 8000000 in
set_option maxRecDepth 100000 in
theorem spec_l00From.calls (A0 : Option Addr) (c0 : Nat) (l0 : List Int) (r1 : List Int) (r2 : Int) (r3 : Int) (w0 w : World) (hB : Below w0.heap.size w0 w) (hr0 : Kd.C (Kd.int .u8) w0 A0 l0.length l0) (hc0 : l0.length ≤ c0) (h : spec_l00From.f l0 = some (r1, r2, r3)) :
  Calls Try.prog 23 #[.slice A0 l0.length c0] w fun e w' => ∃ g_ : Nat, e = .returned (.pointer (some ⟨g_, 0, none⟩)) ∧ IsS66 w0 w' g_ r1 r2 r3 ∧ Below w0.heap.size w0 w' ∧ Below w.heap.size w w' := by
 have hu66 := Try.underlying66
 have HR0 := Aside0.mk hr0
 have HC0 := Aside0.mk hc0
 clear hr0 hc0
 have HBW := Aside0.mk (Below.refl w.heap.size w)
 have HW0 := Aside0.mk hB.size
 have HB := Aside0.mk hB
 clear hB
 have H : (some (l0, 0, 0)) = some (r1, r2, r3) := h
 clear h
 simp only [Option.some.injEq, Prod.mk.injEq] at H
 obtain ⟨rfl, rfl, rfl⟩ := H
 go_enter Try.func23, Try.ntmps23
 go_wp2_with (first | ((with_reducible refine gate_dst (N := 5) rfl ?_); refine box_event ?hg (N := 5) ?hd (cs := #[.slice A0 l0.length c0, .int .i64 0, .int .u64 0]) (t := 66) ?hr ?_; (case hd => rfl); (case hg => rfl); (case hr => first | (go_simp; done) | (go_simp; rfl)); intro gb130 hg w2 hbox hb; have n0_ := Aside0.mk (below_step HBW.out hb); have n1_ := Aside0.mk (below_step (by repeat (first | (with_reducible first | exact HB.out | apply below_alloc | apply pw_below_drewN | apply below_drew1) | exact HB.out)) hb); have n2_ := Aside0.mk (hbox); have n3_ := Aside0.mk ((by rw [hg]; exact (below_size (by repeat (first | (with_reducible first | exact HBW.out | apply below_alloc | apply pw_below_drewN | apply below_drew1) | exact HBW.out))) : w.heap.size ≤ gb130)); have n4_ := Aside0.mk ((Nat.le_trans HW0.out (by rw [hg]; exact (below_size (by repeat (first | (with_reducible first | exact HBW.out | apply below_alloc | apply pw_below_drewN | apply below_drew1) | exact HBW.out))) : w.heap.size ≤ gb130) : w0.heap.size ≤ gb130)); clear HBW; clear HB; have HBW := n0_; have HB := n1_; have BK130 := n2_; have GW130 := n3_; have GE130 := n4_; clear n0_ n1_ n2_ n3_ n4_; clear hb hbox hg))
 go_ret
 exact ⟨_, rfl, (show IsS66 w0 _ gb130 l0 0 0 from ⟨_, _, by (with_reducible repeat (first | refine blk_drewN ?_ _ | refine blk_drew ?_ | refine blk_alloc ?_ _)); exact BK130.out, GE130.out, HR0.out⟩), by repeat (first | (with_reducible first | exact HB.out | apply below_alloc | apply pw_below_drewN | apply below_drew1 | refine below_set ?_ GE130.out) | exact HB.out), by repeat (first | (with_reducible first | exact HBW.out | apply below_alloc | apply pw_below_drewN | apply below_drew1 | refine below_set ?_ GW130.out) | exact HBW.out)⟩

end Go.Proofs.Ytokeeplkbgdokaa.Pq

/- Functions of the program as Lean functions, each with a proof that a call of it comes to just that. Written by this session's program wip/tools/myprint.py. -/
namespace Go.Proofs.Ytokeeplkbgdokaa.Pq
open Go.RowKit Go.Proofs.YtokeeplkbgdokaaW.PrintWords Go.Proofs.YtokeeplkbgdokaaW.PrintLast Go.Proofs.YtokeeplkbgdokaaW.PrintMore
attribute [local go_sem] max2_int min2_int max_two min_two max_three min_three max_four min_four   -- for this text's walks alone
set_option linter.unusedVariables false
set_option linter.unusedSimpArgs false

/-! ### spec_P6Plots: function 5 -/
def spec_P6Plots.f (k : Nat) (l0 : List Int) : Option ((List (S40))) := (spec_l00From.f l0).bind fun bt131 => ((spec_l07Drawn.f k bt131.1 bt131.2.1 bt131.2.2).bind fun bt135 => (some bt135.1))
theorem spec_P6Plots.mono : ∀ a0 k, LeO (spec_P6Plots.f k a0) (spec_P6Plots.f (k + 1) a0) := by
 intro a0 k
 unfold spec_P6Plots.f
 repeat' first
   | (with_reducible exact spec_l07Drawn.mono _ _ _ _)
   | (with_reducible exact LeO.refl _)
   | (with_reducible exact LeO.none _)
   | (with_reducible refine LeO.ite ?_ ?_)
   | (with_reducible refine LeO.bind ?_ (fun _ => ?_))
   | exact spec_l07Drawn.mono _ _ _ _
   | exact LeO.none _
   | refine LeO.ite ?_ ?_
   | refine LeO.bind ?_ (fun _ => ?_)
set_option maxHeartbeats 8000000 in
set_option maxRecDepth 100000 in
theorem spec_P6Plots.calls (k : Nat) (A0 : Option Addr) (c0 : Nat) (l0 : List Int) (r : List (S40)) (w : World) (hr0 : Kd.C (Kd.int .u8) w A0 l0.length l0) (hc0 : l0.length ≤ c0) (h : spec_P6Plots.f k l0 = some r) :
  Calls Try.prog 5 #[.slice A0 l0.length c0] w fun e w' => ∃ v0_ : Value, e = .returned (v0_) ∧ Kd.R k40 40 w' w.heap.size (fun _ => True) v0_ r ∧ Below w.heap.size w w' := by
 have HR0 := Aside0.mk hr0
 have HC0 := Aside0.mk hc0
 clear hr0 hc0
 have HB := Aside0.mk (Below.refl w.heap.size w)
 have H : ((spec_l00From.f l0).bind fun bt131 => ((spec_l07Drawn.f k bt131.1 bt131.2.1 bt131.2.2).bind fun bt135 => (some bt135.1))) = some r := h
 clear h
 replace H := Option.bind_eq_some_iff.mp H
 obtain ⟨⟨t131, t132, t133⟩, A20, H⟩ := H
 replace H : ((spec_l07Drawn.f k t131 t132 t133).bind fun bt135 => (some bt135.1)) = some r := H
 have A2 := Aside0.mk A20
 clear A20
 replace H := Option.bind_eq_some_iff.mp H
 obtain ⟨⟨t135, t138, t139⟩, A30, H⟩ := H
 replace H : (some t135) = some r := H
 have A3 := Aside0.mk A30
 clear A30
 obtain rfl := Option.some.inj H
 go_enter Try.func5, Try.ntmps5
 go_wp2_with (first | ((with_reducible refine gate_callee (f := 23) rfl ?_); refine goesL_ (some 4) rfl rfl Try.func23 (by kernel_rfl) rfl #[.slice A0 l0.length c0] rfl (by (try simp only [List.map_toArray, List.map_cons, List.map_nil]); first | done | rfl | (simp only [List.length_drop, List.length_take]; rfl)) ?_; (with_reducible refine (spec_l00From.calls _ _ l0 t131 t132 t133 w _ ?side1 ?side2 ?side3 A2.out).mono ?_); (case side1 => repeat (first | (with_reducible first | exact HB.out | apply below_alloc | apply pw_below_drewN | apply below_drew1) | exact HB.out)); (case side2 => exact HR0.out); (case side3 => exact HC0.out); rintro e w4 ⟨g134, rfl, hi, hb, hb2⟩; refine ⟨_, rfl, ?_⟩; have n0_ := Aside0.mk (hb); have n1_ := Aside0.mk (hi); clear HB; have HB := n0_; have HI134 := n1_; clear n0_ n1_; (try clear hb); (try clear hb2); (try clear hk); (try clear hi)) | ((with_reducible refine gate_callee (f := 22) rfl ?_); refine goesL_ (some 5) rfl rfl Try.func22 (by kernel_rfl) rfl #[.pointer (some ⟨g134, 0, none⟩)] rfl (by (try simp only [List.map_toArray, List.map_cons, List.map_nil]); first | done | rfl | (simp only [List.length_drop, List.length_take]; rfl)) ?_; (with_reducible refine (spec_l07Drawn.calls k g134 t131 t132 t133 t135 t138 t139 w _ ?side1 ?side2 A3.out).mono ?_); (case side1 => repeat (first | (with_reducible first | exact HI134.out | apply IsS66.alloc | apply IsS66.drewN | apply IsS66.drew | apply IsS66.set_1 | apply IsS66.set_2) | exact HI134.out)); (case side2 => repeat (first | (with_reducible first | exact HB.out | apply below_alloc | apply pw_below_drewN | apply below_drew1 | refine below_set ?_ (IsS66.ge HI134.out)) | exact HB.out)); rintro e w5 ⟨v136, rfl, ho0, hi, hb, hk⟩; refine ⟨_, rfl, ?_⟩; have n0_ := Aside0.mk (Kd.R_lower ho0 (below_size (by repeat (first | (with_reducible first | exact HB.out | apply below_alloc | apply pw_below_drewN | apply below_drew1 | refine below_set ?_ (IsS66.ge HI134.out)) | exact HB.out)))); have n1_ := Aside0.mk (hb); have n2_ := Aside0.mk (hi); clear HB; clear HI134; have HO137 := n0_; have HB := n1_; have HI134 := n2_; clear n0_ n1_ n2_; (try clear hb); (try clear hb2); (try clear hk); (try clear hi); (try clear ho0)))
 go_ret
 exact ⟨_, by first | rfl | (simp [errW_none, errW_some] <;> rfl) | (simp [*, errW_none, errW_some] <;> rfl), by (with_reducible repeat (first | apply Kd.R_alloc | apply Kd.R_drewN | apply Kd.R_drew)); exact HO137.out, by repeat (first | (with_reducible first | exact HB.out | apply below_alloc | apply pw_below_drewN | apply below_drew1 | refine below_set ?_ (IsS66.ge HI134.out)) | exact HB.out)⟩

end Go.Proofs.Ytokeeplkbgdokaa.Pq

/- Functions of the program as Lean functions, each with a proof that a call of it comes to just that. Written by this session's program wip/tools/myprint.py. -/
namespace Go.Proofs.Ytokeeplkbgdokaa.Pq
open Go.RowKit Go.Proofs.YtokeeplkbgdokaaW.PrintWords Go.Proofs.YtokeeplkbgdokaaW.PrintLast Go.Proofs.YtokeeplkbgdokaaW.PrintMore
attribute [local go_sem] max2_int min2_int max_two min_two max_three min_three max_four min_four   -- for this text's walks alone
set_option linter.unusedVariables false
set_option linter.unusedSimpArgs false

/-! ### spec_P6Pick: function 6 -/
def spec_P6Pick.f (l0 : List Int) (a1 : Int) : Option (Int) := (spec_l00From.f l0).bind fun bt140 => ((spec_l00Src_pick.f bt140.1 bt140.2.1 bt140.2.2 a1).bind fun bt144 => (some bt144.1))
set_option maxHeartbeats 8000000 in
set_option maxRecDepth 100000 in
theorem spec_P6Pick.calls (A0 : Option Addr) (c0 : Nat) (l0 : List Int) (a1 : Int) (r : Int) (w : World) (hr0 : Kd.C (Kd.int .u8) w A0 l0.length l0) (hc0 : l0.length ≤ c0) (h : spec_P6Pick.f l0 a1 = some r) :
  Calls Try.prog 6 #[.slice A0 l0.length c0, .int .i64 a1] w fun e w' => e = .returned (.int .i64 r) ∧ Below w.heap.size w w' := by
 have HR0 := Aside0.mk hr0
 have HC0 := Aside0.mk hc0
 clear hr0 hc0
 have HB := Aside0.mk (Below.refl w.heap.size w)
 have H : ((spec_l00From.f l0).bind fun bt140 => ((spec_l00Src_pick.f bt140.1 bt140.2.1 bt140.2.2 a1).bind fun bt144 => (some bt144.1))) = some r := h
 clear h
 replace H := Option.bind_eq_some_iff.mp H
 obtain ⟨⟨t140, t141, t142⟩, A30, H⟩ := H
 replace H : ((spec_l00Src_pick.f t140 t141 t142 a1).bind fun bt144 => (some bt144.1)) = some r := H
 have A3 := Aside0.mk A30
 clear A30
 replace H := Option.bind_eq_some_iff.mp H
 obtain ⟨⟨t144, t145, t146⟩, A40, H⟩ := H
 replace H : (some t144) = some r := H
 have A4 := Aside0.mk A40
 clear A40
 obtain rfl := Option.some.inj H
 go_enter Try.func6, Try.ntmps6
 go_wp2_with (first | ((with_reducible refine gate_callee (f := 23) rfl ?_); refine goesL_ (some 6) rfl rfl Try.func23 (by kernel_rfl) rfl #[.slice A0 l0.length c0] rfl (by (try simp only [List.map_toArray, List.map_cons, List.map_nil]); first | done | rfl | (simp only [List.length_drop, List.length_take]; rfl)) ?_; (with_reducible refine (spec_l00From.calls _ _ l0 t140 t141 t142 w _ ?side1 ?side2 ?side3 A3.out).mono ?_); (case side1 => repeat (first | (with_reducible first | exact HB.out | apply below_alloc | apply pw_below_drewN | apply below_drew1) | exact HB.out)); (case side2 => exact HR0.out); (case side3 => exact HC0.out); rintro e w5 ⟨g143, rfl, hi, hb, hb2⟩; refine ⟨_, rfl, ?_⟩; have n0_ := Aside0.mk (hb); have n1_ := Aside0.mk (hi); clear HB; have HB := n0_; have HI143 := n1_; clear n0_ n1_; (try clear hb); (try clear hb2); (try clear hk); (try clear hi)) | ((with_reducible refine gate_callee (f := 24) rfl ?_); refine goesL_ (some 8) rfl rfl Try.func24 (by kernel_rfl) rfl #[.pointer (some ⟨g143, 0, none⟩), .int .i64 a1] rfl (by (try simp only [List.map_toArray, List.map_cons, List.map_nil]); first | done | rfl | (simp only [List.length_drop, List.length_take]; rfl)) ?_; (with_reducible refine (spec_l00Src_pick.calls g143 t140 t141 t142 a1 t144 t145 t146 w _ ?side1 ?side2 A4.out).mono ?_); (case side1 => repeat (first | (with_reducible first | exact HI143.out | apply IsS66.alloc | apply IsS66.drewN | apply IsS66.drew | apply IsS66.set_1 | apply IsS66.set_2) | exact HI143.out)); (case side2 => repeat (first | (with_reducible first | exact HB.out | apply below_alloc | apply pw_below_drewN | apply below_drew1 | refine below_set ?_ (IsS66.ge HI143.out)) | exact HB.out)); rintro e w6 ⟨rfl, hi, hb, hk⟩; refine ⟨_, rfl, ?_⟩; have n0_ := Aside0.mk (hb); have n1_ := Aside0.mk (hi); clear HB; clear HI143; have HB := n0_; have HI143 := n1_; clear n0_ n1_; (try clear hb); (try clear hb2); (try clear hk); (try clear hi)))
 go_ret
 exact ⟨by first | rfl | (simp [errW_none, errW_some] <;> rfl) | (simp [*, errW_none, errW_some] <;> rfl), by repeat (first | (with_reducible first | exact HB.out | apply below_alloc | apply pw_below_drewN | apply below_drew1 | refine below_set ?_ (IsS66.ge HI143.out)) | exact HB.out)⟩

end Go.Proofs.Ytokeeplkbgdokaa.Pq

/- What is drawn: numbers in their bounds, valid plots. Plain lemmas. -/
namespace Go.Proofs.Ytokeeplkbgdokaa
open Go Go.RowKit Go.Proofs.YtokeeplkbgdokaaW.PrintWords Go.Proofs.YtokeeplkbgdokaaW.PrintMore Go.Proofs.Ytokeeplkbgdokaa.Pq
set_option linter.unusedVariables false

theorem bits_255 (y : Int) : 0 ≤ Go.bits .and .u64 y 255 ∧ Go.bits .and .u64 y 255 ≤ 255 := by
  have h : (BitVec.ofInt 64 y &&& BitVec.ofInt 64 255).toNat ≤ 255 := by
    rw [BitVec.toNat_and]
    exact Nat.le_trans Nat.and_le_right (by decide)
  have e : ∀ m : Nat, m ≤ 255 → IntKind.u64.wrap (m : Int) = m := by
    intro m hm
    simp only [IntKind.wrap, IntKind.bits, IntKind.signed]
    simp
    omega
  have h2 : Go.bits .and .u64 y 255 = IntKind.u64.wrap (((BitVec.ofInt 64 y &&& BitVec.ofInt 64 255).toNat : Nat) : Int) := rfl
  rw [h2, e _ h]
  omega
theorem next_f (c : List Int) (hc : ∀ b ∈ c, 0 ≤ b ∧ b ≤ 255) (hl : c.length ≤ 1000000) (a : Nat) (ha : a ≤ 1000000) (s : Int) : ∃ x s', spec_l00Src_next.f c (a : Int) s = some (x, ((a + 1 : Nat) : Int), s') ∧ 0 ≤ x ∧ x ≤ 255 := by
  unfold spec_l00Src_next.f
  rw [wrap_nat a ha]
  by_cases h1 : (a : Int) < (c.length : Int)
  · rw [if_pos h1, if_pos (by omega), if_pos (by omega)]
    have hx := hc (c.getD a 0) (by rw [pl_getD c _ (by omega)]; exact List.getElem_mem _)
    refine ⟨_, _, rfl, ?_⟩
    rw [rd_nat, show wrap64 (c.getD a 0) = c.getD a 0 by unfold wrap64; omega]
    exact hx
  · rw [if_neg h1, if_neg (by omega)]
    refine ⟨_, _, rfl, ?_⟩
    have := bits_255 ((IntKind.u64.wrap ((IntKind.u64.wrap ((IntKind.u64.wrap (s * 6364136223846793005)))) + 1442695040888963407)) / 1099511627776)
    rw [show ∀ z : Int, 0 ≤ z → z ≤ 255 → wrap64 z = z from fun z h1 h2 => by unfold wrap64; omega]
    · exact this
    · exact this.1
    · exact this.2
theorem pick_f (c : List Int) (hc : ∀ b ∈ c, 0 ≤ b ∧ b ≤ 255) (hl : c.length ≤ 1000000) (a : Nat) (ha : a ≤ 1000000) (s n : Int) (h1 : 2 ≤ n) (h2 : n ≤ 200) : ∃ x s', spec_l00Src_pick.f c (a : Int) s n = some (x, ((a + 1 : Nat) : Int), s') ∧ 0 ≤ x ∧ x < n := by
  obtain ⟨x, s', h3, h4, h5⟩ := next_f c hc hl a ha s
  unfold spec_l00Src_pick.f
  rw [if_neg (by omega), h3]
  simp only [Option.bind_some]
  rw [if_neg (by omega), if_neg (by omega)]
  refine ⟨_, _, rfl, ?_⟩
  rw [Int.tmod_eq_emod_of_nonneg h4]
  exact ⟨Int.emod_nonneg _ (by omega), Int.emod_lt_of_pos _ (by omega)⟩
theorem P6Pick_f (c : List Int) (hc : ∀ b ∈ c, 0 ≤ b ∧ b ≤ 255) (hl : c.length ≤ 1000000) (n : Int) (h1 : 2 ≤ n) (h2 : n ≤ 200) : ∃ x, spec_P6Pick.f c n = some x ∧ 0 ≤ x ∧ x < n := by
  obtain ⟨x, s', h3, h4⟩ := pick_f c hc hl 0 (by omega) 0 n h1 h2
  refine ⟨x, ?_, h4⟩
  unfold spec_P6Pick.f spec_l00From.f
  simp only [Option.bind_some]
  rw [show ((0 : Nat) : Int) = 0 from rfl] at h3
  rw [h3]
  rfl
theorem i16_id (x : Int) (h1 : 0 ≤ x) (h2 : x ≤ 1000) : IntKind.i16.wrap x = x := by
  simp only [IntKind.wrap, IntKind.bits, IntKind.signed]
  simp
  split <;> omega
theorem drawn_loop (c : List Int) (hc : ∀ b ∈ c, 0 ≤ b ∧ b ≤ 255) (hl : c.length ≤ 1000000) (n : Nat) : ∀ (l : List S40) (a : Nat) (s : Int), n ≤ 4 → (∀ x ∈ l, plotOk x = true) → l.length + n ≤ 4 → a + 4 * n ≤ 1000 →
    ∃ l' a' s', Ev (fun k => spec_l07Drawn.l0 k l (n : Int) c (a : Int) s) (l', a', s') ∧ (∀ x ∈ l', plotOk x = true) ∧ l'.length ≤ 4 := by
  induction n with
  | zero =>
    intro l a s _ h1 h2 h3
    refine ⟨l, a, s, Ev.step (fun k => ?_) (Ev.now _), h1, by omega⟩
    rw [spec_l07Drawn.l0, if_neg (by omega)]
  | succ n ih =>
    intro l a s hn h1 h2 h3
    obtain ⟨x1, s1, e1, b1, c1⟩ := pick_f c hc hl a (by omega) s 30 (by omega) (by omega)
    obtain ⟨x2, s2, e2, b2, c2⟩ := pick_f c hc hl (a + 1) (by omega) s1 5 (by omega) (by omega)
    obtain ⟨x3, s3, e3, b3, c3⟩ := pick_f c hc hl (a + 1 + 1) (by omega) s2 6 (by omega) (by omega)
    obtain ⟨x4, s4, e4, b4, c4⟩ := pick_f c hc hl (a + 1 + 1 + 1) (by omega) s3 8 (by omega) (by omega)
    obtain ⟨l', a', s', g1, g2, g3⟩ := ih (l ++ [(⟨x1, x2, x3, x4⟩ : S40)]) (a + 1 + 1 + 1 + 1) s4 (by omega) (fun y hy => by
      rcases List.mem_append.1 hy with hy | hy
      · exact h1 y hy
      · rw [List.mem_singleton.1 hy, plotOk_iff]
        exact ⟨b1, by show x1 ≤ 1000; omega, b2, by show x2 ≤ 20; omega, b3, by show x3 ≤ 20; omega, b4, by show x4 ≤ 1000; omega⟩) (by rw [List.length_append]; simp; omega) (by omega)
    refine ⟨l', a', s', Ev.step (fun k => ?_) g1, g2, g3⟩
    rw [spec_l07Drawn.l0, if_pos (by omega), e1]
    simp only [Option.bind_some]
    rw [e2]
    simp only [Option.bind_some]
    rw [e3]
    simp only [Option.bind_some]
    rw [e4]
    simp only [Option.bind_some]
    rw [if_pos (by omega), i16_id x1 b1 (by omega), i16_id x2 b2 (by omega), i16_id x3 b3 (by omega), i16_id x4 b4 (by omega), show wrap64 (((n + 1 : Nat) : Int) - 1) = (n : Int) by unfold wrap64; omega]
theorem plots_ev (c : List Int) (hc : ∀ b ∈ c, 0 ≤ b ∧ b ≤ 255) (hl : c.length ≤ 1000000) : ∃ l, Ev (fun k => spec_P6Plots.f k c) l ∧ (∀ x ∈ l, plotOk x = true) ∧ l.length ≤ 4 := by
  obtain ⟨x, s', h3, h4, h5⟩ := pick_f c hc hl 0 (by omega) 0 5 (by omega) (by omega)
  obtain ⟨n, rfl⟩ : ∃ n : Nat, x = n := ⟨x.toNat, by omega⟩
  obtain ⟨l, a', s2, g1, g2, g3⟩ := drawn_loop c hc hl n [] (0 + 1) s' (by omega) (by simp) (by simp; omega) (by omega)
  refine ⟨l, ?_, g2, g3⟩
  refine Ev.congr (f := fun k => (spec_l07Drawn.l0 k [] (n : Int) c ((0 + 1 : Nat) : Int) s').bind fun bt => some bt.1) (fun k => ?_) (Ev.bind (f := fun _ (bt : List S40 × Int × Int) => some bt.1) g1 (Ev.now _))
  unfold spec_P6Plots.f spec_l00From.f spec_l07Drawn.f
  rw [show ((0 : Nat) : Int) = 0 from rfl] at h3
  simp only [Option.bind_some]
  rw [h3]
  rfl
end Go.Proofs.Ytokeeplkbgdokaa

/- Functions of the program as Lean functions, each with a proof that a call of it comes to just that. Written by this session's program wip/tools/myprint.py. -/
namespace Go.Proofs.Ytokeeplkbgdokaa.Pq
open Go.RowKit Go.Proofs.YtokeeplkbgdokaaW.PrintWords Go.Proofs.YtokeeplkbgdokaaW.PrintLast Go.Proofs.YtokeeplkbgdokaaW.PrintMore
attribute [local go_sem] max2_int min2_int max_two min_two max_three min_three max_four min_four   -- for this text's walks alone
set_option linter.unusedVariables false
set_option linter.unusedSimpArgs false

/-! ### laws_f6big: function 4 -/
def laws_f6big.f (l0 : List Int) : Option (Bool) := some (decide ((l0.length : Int) > 4096))
set_option maxHeartbeats 8000000 in
set_option maxRecDepth 100000 in
theorem laws_f6big.calls (A0 : Option Addr) (c0 : Nat) (l0 : List Int) (r : Bool) (w : World) (hr0 : Kd.C (Kd.int .u8) w A0 l0.length l0) (hc0 : l0.length ≤ c0) (h : laws_f6big.f l0 = some r) :
  Calls Try.prog 4 #[.slice A0 l0.length c0] w fun e w' => e = .returned (.bool r) ∧ Drawn0 w w' := by
 have HR0 := Aside0.mk hr0
 have HC0 := Aside0.mk hc0
 clear hr0 hc0
 have H : (some (decide ((l0.length : Int) > 4096))) = some r := h
 clear h
 obtain rfl := Option.some.inj H
 go_enter Try.func4, Try.ntmps4
 go_wp2
 go_ret
 exact ⟨by first | rfl | (simp; done) | (simp [*]; done), by repeat (first | exact Drawn0.refl _ | apply Drawn0.step)⟩

end Go.Proofs.Ytokeeplkbgdokaa.Pq

/- The law FnPlans walked: it answers true. -/
namespace Go.Proofs.Ytokeeplkbgdokaa
open Go Go.RowKit Go.Proofs.YtokeeplkbgdokaaW.PrintWords Go.Proofs.YtokeeplkbgdokaaW.PrintLast Go.Proofs.YtokeeplkbgdokaaW.PrintMore Go.Proofs.Ytokeeplkbgdokaa.Pq
set_option linter.unusedSimpArgs false
set_option linter.unusedVariables false

set_option maxHeartbeats 4000000 in
set_option maxRecDepth 100000 in
theorem law_big0 (A0 : Option Addr) (c0 : Nat) (l0 : List Int) (A1 : Option Addr) (c1 : Nat) (l1 : List Int) (w : World) (HR0 : Aside0 (Kd.C (Kd.int .u8) w A0 l0.length l0)) (HC0 : Aside0 (l0.length ≤ c0)) (HN : Aside0 ((l0.length : Int) > 4096)) :
    Calls Try.prog 3 #[.slice A0 l0.length c0, .slice A1 l1.length c1] w fun e w' => e = .returned (.bool true) ∧ Below w.heap.size w w' := by
  go_enter Try.func3, Try.ntmps3
  go_wp2_with fail
  (with_reducible refine (laws_f6big.calls A0 c0 l0 true _ HR0.out HC0.out (by unfold laws_f6big.f; rw [decide_eq_true HN.out])).mono ?_); rintro e w1 ⟨rfl, n1, rfl⟩
  go_wp2_with fail
  go_ret
  exact ⟨rfl, pw_below_drewN (Below.refl _ _) _⟩
set_option maxHeartbeats 4000000 in
set_option maxRecDepth 100000 in
theorem law_big1 (A0 : Option Addr) (c0 : Nat) (l0 : List Int) (A1 : Option Addr) (c1 : Nat) (l1 : List Int) (w : World) (HR0 : Aside0 (Kd.C (Kd.int .u8) w A0 l0.length l0)) (HC0 : Aside0 (l0.length ≤ c0)) (HN0 : Aside0 (¬ (l0.length : Int) > 4096)) (HR1 : Aside0 (Kd.C (Kd.int .u8) w A1 l1.length l1)) (HC1 : Aside0 (l1.length ≤ c1)) (HN : Aside0 ((l1.length : Int) > 4096)) :
    Calls Try.prog 3 #[.slice A0 l0.length c0, .slice A1 l1.length c1] w fun e w' => e = .returned (.bool true) ∧ Below w.heap.size w w' := by
  go_enter Try.func3, Try.ntmps3
  go_wp2_with fail
  (with_reducible refine (laws_f6big.calls A0 c0 l0 false _ HR0.out HC0.out (by unfold laws_f6big.f; rw [decide_eq_false (by have := HN0.out; omega)])).mono ?_); rintro e w1 ⟨rfl, n1, rfl⟩
  go_wp2_with fail
  (with_reducible refine (laws_f6big.calls A1 c1 l1 true _ (Kd.C_drewN HR1.out _) HC1.out (by unfold laws_f6big.f; rw [decide_eq_true HN.out])).mono ?_); rintro e w2 ⟨rfl, n2, rfl⟩
  go_wp2_with fail
  go_ret
  exact ⟨rfl, pw_below_drewN (Below.refl _ _) _⟩
theorem sum_lost (l : List S40) (p : List Int) (h : p.length = l.length) : (lostL l p).sum + planSum l p = (l.map (·.f0)).sum := by
  induction l generalizing p with
  | nil => cases p <;> simp [lostL, planSum]
  | cons x l ih =>
    cases p with
    | nil => simp at h
    | cons d p =>
      have := ih p (by simpa using h)
      simp only [lostL, worthsL, List.zip_cons_cons, List.map_cons, List.sum_cons, planSum] at this ⊢
      omega
theorem okPlan_more {h : Int} {D : Nat} {p : List Int} (hp : okPlan h D p) : okPlan (h + 1) D p := ⟨hp.1, fun d hd => by have := hp.2 d hd; omega⟩
theorem okPlan_le {h h2 : Int} {D : Nat} {p : List Int} (hp : okPlan h D p) (hh : h ≤ h2) : okPlan h2 D p := ⟨hp.1, fun d hd => by have := hp.2 d hd; omega⟩
theorem tryV_hands (l : List S40) (D : Nat) (hl : l.length ≤ 6) (h h2 : Int) (h0 : 0 ≤ h) (hh : h ≤ h2) : tryV l h D [] ≤ tryV l h2 D [] := by
  obtain ⟨r, h1, h3, h4⟩ := tryV_at l h D hl [] (Nat.zero_le _) (lead_nil l h D h0).1
  rw [← h4]
  exact tryV_ge l h2 D hl [] r (okPlan_le h3 hh) h1
theorem tryV_le_bound (l : List S40) (hok : ∀ x ∈ l, plotOk x = true) (D : Nat) (hl : l.length ≤ 6) (h : Int) (h0 : 0 ≤ h) : tryV l h D [] ≤ bound l D := by
  obtain ⟨r, h1, h3, h4⟩ := tryV_at l h D hl [] (Nat.zero_le _) (lead_nil l h D h0).1
  rw [← h4]
  exact planSum_le_bound l hok D _ h3.1
theorem firstHands_best (l : List S40) (D : Nat) (h : Int) (hh : 1 ≤ h ∧ h ≤ 3) : (firstHands l D (tryV l h D [])).2 = 0 ∧ (firstHands l D (tryV l h D [])).1 ≤ h := by
  have h3 : h = 1 ∨ h = 2 ∨ h = 3 := by omega
  unfold firstHands
  rcases h3 with rfl | rfl | rfl
  · rw [if_pos (Int.le_refl _)]; exact ⟨rfl, Int.le_refl _⟩
  · split
    · exact ⟨rfl, by decide⟩
    · rw [if_pos (Int.le_refl _)]; exact ⟨rfl, Int.le_refl _⟩
  · split
    · exact ⟨rfl, by decide⟩
    · split
      · exact ⟨rfl, by decide⟩
      · rw [if_pos (Int.le_refl _)]; exact ⟨rfl, Int.le_refl _⟩
theorem firstHands_none (l : List S40) (hok : ∀ x ∈ l, plotOk x = true) (D : Nat) (hl : l.length ≤ 6) : firstHands l D (bound l D + 1) = (0, 6) := by
  have b1 := tryV_le_bound l hok D hl 1 (by decide)
  have b2 := tryV_le_bound l hok D hl 2 (by decide)
  have b3 := tryV_le_bound l hok D hl 3 (by decide)
  unfold firstHands
  rw [if_neg (by omega), if_neg (by omega), if_neg (by omega)]
theorem R_open2 {α : Type} {d : Kd α} {e base : Nat} {ok : Nat → Prop} {w : World} {v : Value} {xs : List α} (h : d.R e w base ok v xs) : ∃ A c, v = .slice A xs.length c ∧ Aside0 (xs.length ≤ c) ∧ Aside0 (d.C w A xs.length xs) := by
  obtain ⟨A, c, h1, h2, h3⟩ := R_open' h
  exact ⟨A, c, h1, ⟨h2⟩, ⟨h3⟩⟩
theorem bound_b (l : List S40) (hok : ∀ x ∈ l, plotOk x = true) (D : Nat) : 0 ≤ bound l D ∧ bound l D ≤ 1000 * l.length := by
  induction l with
  | nil => simp [bound]
  | cons x l ih =>
    have h1 := ih (fun y hy => hok y (by simp [hy]))
    have h2 := bPick_bound x (hok x (by simp)) D
    unfold bound at h1 ⊢
    rw [List.map_cons, List.sum_cons, List.length_cons]
    omega
theorem sum_b (l : List Int) (h : ∀ x ∈ l, -1000 ≤ x ∧ x ≤ 1000) : -1000 * (l.length : Int) ≤ l.sum ∧ l.sum ≤ 1000 * (l.length : Int) := by
  induction l with
  | nil => simp
  | cons x l ih =>
    have h1 := ih (fun y hy => h y (by simp [hy]))
    have h2 := h x (by simp)
    rw [List.sum_cons, List.length_cons]
    omega
theorem lost_b (l : List S40) (hok : ∀ x ∈ l, plotOk x = true) (p : List Int) : ∀ y ∈ lostL l p, -1000 ≤ y ∧ y ≤ 1000 := by
  intro y hy
  unfold lostL at hy
  rw [List.mem_map] at hy
  obtain ⟨⟨a, b⟩, h1, rfl⟩ := hy
  have ha := hok a (List.of_mem_zip h1).1
  have hb := worthsL_bound l hok p b (List.of_mem_zip h1).2
  rw [plotOk_iff] at ha
  show -1000 ≤ a.f0 - b ∧ a.f0 - b ≤ 1000
  omega
theorem take_b (l : List Int) (h : ∀ x ∈ l, -1000 ≤ x ∧ x ≤ 1000) (k n : Nat) (hn : l.length ≤ n) : -1000 * (n : Int) ≤ (l.take k).sum ∧ (l.take k).sum ≤ 1000 * (n : Int) := by
  have := sum_b (l.take k) (fun x hx => h x (List.mem_of_mem_take hx))
  rw [List.length_take] at this
  omega
theorem take_sum (l : List Int) (k : Nat) (h : k < l.length) : (l.take (k + 1)).sum = (l.take k).sum + l[k] := by
  rw [List.take_succ_eq_append_getElem h, List.sum_append, List.sum_cons, List.sum_nil, Int.add_zero]
set_option maxHeartbeats 8000000 in
set_option maxRecDepth 100000 in
theorem law_main (A0 : Option Addr) (c0 : Nat) (l0 : List Int) (A1 : Option Addr) (c1 : Nat) (l1 : List Int) (w : World) (HR0 : Aside0 (Kd.C (Kd.int .u8) w A0 l0.length l0)) (HC0 : Aside0 (l0.length ≤ c0)) (HN0 : Aside0 (¬ (l0.length : Int) > 4096)) (HR1 : Aside0 (Kd.C (Kd.int .u8) w A1 l1.length l1)) (HC1 : Aside0 (l1.length ≤ c1)) (HN1 : Aside0 (¬ (l1.length : Int) > 4096))
    (H0 : Aside0 (∀ b ∈ l0, 0 ≤ b ∧ b ≤ 255)) (H1 : Aside0 (∀ b ∈ l1, 0 ≤ b ∧ b ≤ 255)) :
    Calls Try.prog 3 #[.slice A0 l0.length c0, .slice A1 l1.length c1] w fun e w' => e = .returned (.bool true) ∧ Below w.heap.size w w' := by
  obtain ⟨l, hev, hok, hl4⟩ := plots_ev l0 H0.out (by have := HN0.out; omega)
  obtain ⟨k1, hk1⟩ := hev.rounds
  obtain ⟨x1, hx1, hx1a, hx1b⟩ := P6Pick_f l1 H1.out (by have := HN1.out; omega) 3 (by decide) (by decide)
  obtain ⟨x2, hx2, hx2a, hx2b⟩ := P6Pick_f l0 H0.out (by have := HN0.out; omega) 8 (by decide) (by decide)
  obtain ⟨D, hD⟩ : ∃ D : Nat, 1 + x2 = D := ⟨(1 + x2).toNat, by omega⟩
  obtain ⟨hn, hhn⟩ : ∃ hn : Nat, 1 + x1 = hn := ⟨(1 + x1).toNat, by omega⟩
  have hDr : 1 ≤ D ∧ D ≤ 20 := by omega
  have hhr : 1 ≤ hn ∧ hn ≤ 3 := by omega
  have hhi : (1 : Int) ≤ (hn : Int) ∧ (hn : Int) ≤ 3 := by omega
  have HP := Aside0.mk hk1
  have HX1 := Aside0.mk hx1
  have HX2 := Aside0.mk hx2
  have HDD := Aside0.mk hD
  have HHN := Aside0.mk hhn
  have HOK := Aside0.mk hok
  clear hev hk1 hx1 hx2 hok
  go_enter Try.func3, Try.ntmps3
  go_wp2_with fail
  (with_reducible refine (laws_f6big.calls A0 c0 l0 false _ HR0.out HC0.out (by unfold laws_f6big.f; rw [decide_eq_false (by have := HN0.out; omega)])).mono ?_); rintro e w1 ⟨rfl, n1, rfl⟩
  go_wp2_with fail
  (with_reducible refine (laws_f6big.calls A1 c1 l1 false _ (Kd.C_drewN HR1.out _) HC1.out (by unfold laws_f6big.f; rw [decide_eq_false (by have := HN1.out; omega)])).mono ?_); rintro e w2 ⟨rfl, n2, rfl⟩
  obtain ⟨wa, HWA⟩ : ∃ wa : World, Aside0 (wa = (w.drewN n1).drewN n2) := ⟨_, ⟨rfl⟩⟩
  rw [← HWA.out]
  have HB : Aside0 (Below w.heap.size w wa) := ⟨by rw [HWA.out]; exact pw_below_drewN (pw_below_drewN (Below.refl _ _) _) _⟩
  clear HWA
  go_wp2_with fail
  (with_reducible refine (spec_P6Plots.calls k1 A0 c0 l0 l _ (Kd.C_below HR0.out HB.out) HC0.out HP.out).mono ?_); rintro e wb ⟨v, rfl, ho, hb⟩
  obtain ⟨Al, cl, rfl, HCl, HRl⟩ := R_open2 ho
  replace HB := Aside0.mk (HB.out.trans (hb.mono HB.out.size))
  clear ho hb
  go_wp2_with fail
  (with_reducible refine (spec_P6Pick.calls A1 c1 l1 3 x1 _ (Kd.C_below HR1.out HB.out) HC1.out HX1.out).mono ?_); rintro e wc ⟨rfl, hb⟩
  replace HB := Aside0.mk (HB.out.trans (hb.mono HB.out.size))
  replace HRl := Aside0.mk (Kd.C_below HRl.out hb)
  clear hb
  go_wp2_with fail
  (with_reducible refine (spec_P6Pick.calls A0 c0 l0 8 x2 _ (Kd.C_below HR0.out HB.out) HC0.out HX2.out).mono ?_); rintro e wd ⟨rfl, hb⟩
  replace HB := Aside0.mk (HB.out.trans (hb.mono HB.out.size))
  replace HRl := Aside0.mk (Kd.C_below HRl.out hb)
  clear hb
  obtain ⟨p, hp, hpl, hps, ⟨ka, hka⟩, ⟨kb, hkb⟩⟩ : ∃ p, okPlan hn D p ∧ p.length = l.length ∧ planSum l p = tryV l hn D [] ∧ (∃ k, impl_BestPlan.f k l hn D = some (p, tryV l hn D [], 0)) ∧ (∃ k, spec_BestPlan.f k l hn D = some (p, tryV l hn D [], 0)) := by
    obtain ⟨p, h1, h2, h3, h4, h5⟩ := bestPlans l hn D HOK.out (by omega) hhi hDr
    exact ⟨p, h1, h2, h3, h4.rounds, h5.rounds⟩
  have hVb := tryV_le_bound l HOK.out D (by omega) hn (by omega)
  obtain ⟨V, HV⟩ : ∃ V, Aside0 (tryV l hn D [] = V) := ⟨_, ⟨rfl⟩⟩
  have hg := gAll_plan l hn D
  have hgl := tryV_ge l hn D (by omega) [] (gAll l hn D) hg.1 hg.2
  rw [List.nil_append] at hgl
  obtain ⟨⟨kc, hkc⟩, ⟨kd, hkd⟩⟩ : (∃ k, impl_GreedyPlan.f k l hn D = some (gAll l hn D, planSum l (gAll l hn D), 0)) ∧ (∃ k, spec_GreedyPlan.f k l hn D = some (gAll l hn D, planSum l (gAll l hn D), 0)) := by
    have := greedyPlans l hn D HOK.out (by omega) hhr hDr
    exact ⟨this.1.rounds, this.2.rounds⟩
  obtain ⟨g, HGE⟩ : ∃ g, Aside0 (gAll l hn D = g) := ⟨_, ⟨rfl⟩⟩
  obtain ⟨ke, hke⟩ := (bound_ev l HOK.out (by omega) D hDr).rounds
  obtain ⟨bd, HBD⟩ : ∃ bd, Aside0 (bound l D = bd) := ⟨_, ⟨rfl⟩⟩
  obtain ⟨kf, hkf⟩ := (worthOf_ev l HOK.out (by omega) hn hhi D hDr p hp hpl).rounds
  obtain ⟨kg, hkg⟩ := (worthOf_ev l HOK.out (by omega) hn hhi D hDr (gAll l hn D) hg.1 hg.2).rounds
  obtain ⟨kh, hkh⟩ := (lost_ev l HOK.out (by omega) hn hhi D hDr p hp hpl).rounds
  have hbb := bound_b l HOK.out D
  rw [HGE.out] at hg hgl hkc hkd hkg
  obtain ⟨few, HFE⟩ : ∃ few, Aside0 (planSum l g = few) := ⟨_, ⟨rfl⟩⟩
  rw [HFE.out] at hgl hkc hkd hkg
  rw [HV.out] at hps hka hkb hVb hgl
  rw [HBD.out] at hVb hke hbb
  rw [hps] at hkf
  have hpb := planSum_bound l HOK.out p
  rw [hps] at hpb
  obtain ⟨hpb1, hpb2⟩ := hpb
  obtain ⟨hbb1, hbb2⟩ := hbb
  have HPO := Aside0.mk hp
  have HPL := Aside0.mk hpl
  have HPS := Aside0.mk hps
  have HG1 := Aside0.mk hg.1
  have HG2 := Aside0.mk hg.2
  have HKA := Aside0.mk hka
  have HKB := Aside0.mk hkb
  have HKC := Aside0.mk hkc
  have HKD := Aside0.mk hkd
  have HKE := Aside0.mk hke
  have HKF := Aside0.mk hkf
  have HKG := Aside0.mk hkg
  have HKH := Aside0.mk hkh
  have HLL : Aside0 ((lostL l p).length = l.length) := ⟨by unfold lostL; rw [List.length_map, List.length_zip, worthsL_length l p hpl]; omega⟩
  clear hp hpl hps hg hka hkb hkc hkd hke hkf hkg hkh
  go_wp2_with fail
  (with_reducible refine (impl_BestPlan.calls ka Al cl l hn D p V 0 _ HRl.out HCl.out HKA.out).mono ?_); rintro e we ⟨v, rfl, ho, hb⟩
  obtain ⟨Ap, cp, rfl, HCp, HRp⟩ := R_open2 ho
  replace HB := Aside0.mk (HB.out.trans (hb.mono HB.out.size))
  replace HRl := Aside0.mk (Kd.C_below HRl.out hb)
  clear ho hb
  go_wp2_with fail
  (with_reducible refine (spec_BestPlan.calls kb Al cl l hn D p V 0 _ HRl.out HCl.out HKB.out).mono ?_); rintro e wf ⟨v, rfl, ho, hb⟩
  obtain ⟨Aq, cq, rfl, HCq, HRq⟩ := R_open2 ho
  replace HB := Aside0.mk (HB.out.trans (hb.mono HB.out.size))
  replace HRl := Aside0.mk (Kd.C_below HRl.out hb)
  replace HRp := Aside0.mk (Kd.C_below HRp.out hb)
  clear ho hb
  go_wp2_with fail
  (with_reducible refine (impl_GreedyPlan.calls kc Al cl l hn D g few 0 _ HRl.out HCl.out HKC.out).mono ?_); rintro e wg ⟨v, rfl, ho, hb⟩
  obtain ⟨Ag, cg, rfl, HCg, HRg⟩ := R_open2 ho
  replace HB := Aside0.mk (HB.out.trans (hb.mono HB.out.size))
  replace HRl := Aside0.mk (Kd.C_below HRl.out hb)
  replace HRp := Aside0.mk (Kd.C_below HRp.out hb)
  replace HRq := Aside0.mk (Kd.C_below HRq.out hb)
  clear ho hb
  go_wp2_with fail
  (with_reducible refine (spec_GreedyPlan.calls kd Al cl l hn D g few 0 _ HRl.out HCl.out HKD.out).mono ?_); rintro e wh ⟨v, rfl, ho, hb⟩
  obtain ⟨Am, cm, rfl, HCm, HRm⟩ := R_open2 ho
  replace HB := Aside0.mk (HB.out.trans (hb.mono HB.out.size))
  replace HRl := Aside0.mk (Kd.C_below HRl.out hb)
  replace HRp := Aside0.mk (Kd.C_below HRp.out hb)
  replace HRq := Aside0.mk (Kd.C_below HRq.out hb)
  replace HRg := Aside0.mk (Kd.C_below HRg.out hb)
  clear ho hb
  go_wp2_with fail
  (with_reducible refine (impl_WorthBound.calls ke Al cl l D bd 0 _ HRl.out HCl.out HKE.out).mono ?_); rintro e wi ⟨rfl, hb⟩
  replace HB := Aside0.mk (HB.out.trans (hb.mono HB.out.size))
  replace HRl := Aside0.mk (Kd.C_below HRl.out hb)
  replace HRp := Aside0.mk (Kd.C_below HRp.out hb)
  replace HRq := Aside0.mk (Kd.C_below HRq.out hb)
  replace HRg := Aside0.mk (Kd.C_below HRg.out hb)
  replace HRm := Aside0.mk (Kd.C_below HRm.out hb)
  clear hb
  go_wp2_with fail
  (with_reducible refine (impl_WorthOf.calls kf Al cl l hn Aq cq p V 0 _ HRl.out HCl.out HRq.out HCq.out HKF.out).mono ?_); rintro e wj ⟨rfl, hb⟩
  replace HB := Aside0.mk (HB.out.trans (hb.mono HB.out.size))
  replace HRl := Aside0.mk (Kd.C_below HRl.out hb)
  replace HRp := Aside0.mk (Kd.C_below HRp.out hb)
  replace HRq := Aside0.mk (Kd.C_below HRq.out hb)
  replace HRg := Aside0.mk (Kd.C_below HRg.out hb)
  replace HRm := Aside0.mk (Kd.C_below HRm.out hb)
  clear hb
  go_wp2_with fail
  (with_reducible refine (impl_WorthOf.calls kg Al cl l hn Am cm g few 0 _ HRl.out HCl.out HRm.out HCm.out HKG.out).mono ?_); rintro e wk ⟨rfl, hb⟩
  replace HB := Aside0.mk (HB.out.trans (hb.mono HB.out.size))
  replace HRl := Aside0.mk (Kd.C_below HRl.out hb)
  replace HRp := Aside0.mk (Kd.C_below HRp.out hb)
  replace HRq := Aside0.mk (Kd.C_below HRq.out hb)
  replace HRg := Aside0.mk (Kd.C_below HRg.out hb)
  replace HRm := Aside0.mk (Kd.C_below HRm.out hb)
  clear hb
  go_wp2_with fail
  (with_reducible refine (impl_LostBy.calls kh Al cl l hn Aq cq p (lostL l p) 0 _ HRl.out HCl.out HRq.out HCq.out HKH.out).mono ?_); rintro e wl ⟨v, rfl, ho, hb⟩
  obtain ⟨At, ct, rfl, HCt, HRt⟩ := R_open2 ho
  rw [HLL.out] at HCt HRt
  rw [HLL.out]
  replace HB := Aside0.mk (HB.out.trans (hb.mono HB.out.size))
  replace HRl := Aside0.mk (Kd.C_below HRl.out hb)
  replace HRp := Aside0.mk (Kd.C_below HRp.out hb)
  replace HRq := Aside0.mk (Kd.C_below HRq.out hb)
  replace HRg := Aside0.mk (Kd.C_below HRg.out hb)
  replace HRm := Aside0.mk (Kd.C_below HRm.out hb)
  clear ho hb
  obtain ⟨ki, hki⟩ := (same_ev p (by have := HPL.out; omega)).rounds
  obtain ⟨kj, hkj⟩ := (same_ev g (by have := HG2.out; omega)).rounds
  obtain ⟨kk, hkk⟩ := (vplots_ev l HOK.out (by omega)).rounds
  have HKI := Aside0.mk hki
  have HKJ := Aside0.mk hkj
  have HKK := Aside0.mk hkk
  clear hki hkj hkk
  go_wp2_with fail
  (with_reducible refine (spec_SameNumbers.calls ki Ap cp p Aq cq p true _ HRp.out HCp.out HRq.out HCq.out HKI.out).mono ?_); rintro e wm ⟨rfl, m1, rfl⟩
  go_wp2_with fail
  (with_reducible refine (spec_SameNumbers.calls kj Ag cg g Am cm g true _ (Kd.C_drewN HRg.out _) HCg.out (Kd.C_drewN HRm.out _) HCm.out HKJ.out).mono ?_); rintro e wm ⟨rfl, m2, rfl⟩
  go_wp2_with fail
  (with_reducible refine (impl_ValidPlan.calls Al cl l hn Aq cq p true _ (by repeat (first | exact HRl.out | (refine Kd.C_drewN ?_ _))) HCl.out (by repeat (first | exact HRq.out | (refine Kd.C_drewN ?_ _))) HCq.out (validPlan_f l HOK.out (by omega) hn hhi D hDr p HPO.out HPL.out)).mono ?_); rintro e wn ⟨rfl, hb⟩
  replace HB := Aside0.mk (below_step (by repeat (first | (with_reducible first | exact HB.out | apply below_alloc | apply pw_below_drewN | apply below_drew1) | exact HB.out)) hb)
  replace HRl := Aside0.mk (Kd.C_below (by repeat (first | exact HRl.out | (refine Kd.C_drewN ?_ _))) hb)
  replace HRp := Aside0.mk (Kd.C_below (by repeat (first | exact HRp.out | (refine Kd.C_drewN ?_ _))) hb)
  replace HRq := Aside0.mk (Kd.C_below (by repeat (first | exact HRq.out | (refine Kd.C_drewN ?_ _))) hb)
  replace HRg := Aside0.mk (Kd.C_below (by repeat (first | exact HRg.out | (refine Kd.C_drewN ?_ _))) hb)
  replace HRm := Aside0.mk (Kd.C_below (by repeat (first | exact HRm.out | (refine Kd.C_drewN ?_ _))) hb)
  replace HRt := Aside0.mk (Kd.C_below (by repeat (first | exact HRt.out | (refine Kd.C_drewN ?_ _))) hb)
  clear hb
  go_wp2_with fail
  (with_reducible refine (impl_ValidPlan.calls Al cl l hn Am cm g true _ HRl.out HCl.out HRm.out HCm.out (validPlan_f l HOK.out (by omega) hn hhi D hDr g HG1.out HG2.out)).mono ?_); rintro e wo ⟨rfl, hb⟩
  replace HB := Aside0.mk (below_step (by repeat (first | (with_reducible first | exact HB.out | apply below_alloc | apply pw_below_drewN | apply below_drew1) | exact HB.out)) hb)
  replace HRl := Aside0.mk (Kd.C_below (by repeat (first | exact HRl.out | (refine Kd.C_drewN ?_ _))) hb)
  replace HRp := Aside0.mk (Kd.C_below (by repeat (first | exact HRp.out | (refine Kd.C_drewN ?_ _))) hb)
  replace HRq := Aside0.mk (Kd.C_below (by repeat (first | exact HRq.out | (refine Kd.C_drewN ?_ _))) hb)
  replace HRg := Aside0.mk (Kd.C_below (by repeat (first | exact HRg.out | (refine Kd.C_drewN ?_ _))) hb)
  replace HRm := Aside0.mk (Kd.C_below (by repeat (first | exact HRm.out | (refine Kd.C_drewN ?_ _))) hb)
  replace HRt := Aside0.mk (Kd.C_below (by repeat (first | exact HRt.out | (refine Kd.C_drewN ?_ _))) hb)
  clear hb
  go_wp2_with fail
  (with_reducible refine (impl_ValidPlots.calls kk Al cl l true _ HRl.out HCl.out HKK.out).mono ?_); rintro e wq ⟨rfl, hb⟩
  replace HB := Aside0.mk (below_step (by repeat (first | (with_reducible first | exact HB.out | apply below_alloc | apply pw_below_drewN | apply below_drew1) | exact HB.out)) hb)
  replace HRl := Aside0.mk (Kd.C_below (by repeat (first | exact HRl.out | (refine Kd.C_drewN ?_ _))) hb)
  replace HRt := Aside0.mk (Kd.C_below (by repeat (first | exact HRt.out | (refine Kd.C_drewN ?_ _))) hb)
  clear hb HRp HRq HRg HRm
  have hlen4 : (l.length : Int) ≤ 4 := by omega
  go_wp2_with fail
  go_loopw [28, 29, 30, 31] (fun u v x i wr => ∃ k : Nat, k ≤ l.length ∧ i = .int .i64 k ∧ u = .int .i64 ((lostL l p).take k).sum ∧ v = .int .i64 ((l.take k).map (·.f0)).sum ∧ x = .int .i64 ((l.take k).map fun y => (bPick y D).2).sum ∧ Aside0 (Kd.C k40 wr Al l.length l) ∧ Aside0 (Kd.C (Kd.int .i64) wr At l.length (lostL l p)) ∧ Aside0 (Below w.heap.size w wr)) (fun _ _ _ i _ => l.length - (intOf i).toNat)
  case atStart => exact ⟨0, Nat.zero_le _, rfl, rfl, rfl, rfl, HRl, HRt, HB⟩
  case round =>
    clear HRl HRt HB
    obtain ⟨k, hk, rfl, rfl, rfl, rfl, HRl, HRt, HB⟩ := hrel
    by_cases hlt : k < l.length
    · have p0 : (0 : Int) ≤ (k : Int) := by omega
      have q0 : (k : Int) < l.length := by omega
      have hkl : k < (lostL l p).length := by have := HLL.out; omega
      obtain ⟨ad1, ea1, hy0⟩ := Kd.at_int HRt.out k p0 q0
      cases ea1
      obtain ⟨ad2, ea2, hx0, hx1, hx2, hx3⟩ := at_T40 HRl.out k p0 q0
      cases ea2
      rw [pl_rd l k hlt] at hx0
      clear hx1 hx2 hx3
      rw [Int.toNat_natCast] at hy0 hx0
      rw [show rd (lostL l p) (k : Int) = (lostL l p)[k] from by rw [rd_nat, pl_getD _ _ hkl]] at hy0
      obtain ⟨x, HX⟩ : ∃ x, Aside0 (l[k] = x) := ⟨_, ⟨rfl⟩⟩
      have hxk : plotOk x = true := by rw [← HX.out]; exact HOK.out _ (List.getElem_mem hlt)
      have hxr := (plotOk_iff x).1 hxk
      obtain ⟨hf1, hf2, _⟩ := hxr
      obtain ⟨ls, HLS⟩ : ∃ ls, Aside0 ((lostL l p)[k] = ls) := ⟨_, ⟨rfl⟩⟩
      have hls := lost_b l HOK.out p ((lostL l p)[k]) (List.getElem_mem _)
      rw [HX.out] at hx0
      rw [HLS.out] at hy0 hls
      obtain ⟨hls1, hls2⟩ := hls
      obtain ⟨d1, HD1⟩ : ∃ d1, Aside0 ((bPick x D).1 = d1) := ⟨_, ⟨rfl⟩⟩
      obtain ⟨d2, HD2⟩ : ∃ d2, Aside0 ((bPick x D).2 = d2) := ⟨_, ⟨rfl⟩⟩
      have hdr := bPick_range x D
      have hdb := bPick_bound x hxk D
      rw [HD1.out] at hdr
      rw [HD2.out] at hdb
      obtain ⟨hd0, hd1⟩ := hdr
      have hd2 : d1 ≤ 200 := by omega
      obtain ⟨hdb1, hdb2⟩ := hdb
      obtain ⟨s1, HS1⟩ : ∃ s, Aside0 (((lostL l p).take k).sum = s) := ⟨_, ⟨rfl⟩⟩
      obtain ⟨s2, HS2⟩ : ∃ s, Aside0 (((l.take k).map (·.f0)).sum = s) := ⟨_, ⟨rfl⟩⟩
      obtain ⟨s3, HS3⟩ : ∃ s, Aside0 (((l.take k).map fun y => (bPick y D).2).sum = s) := ⟨_, ⟨rfl⟩⟩
      have hs1 := take_b (lostL l p) (lost_b l HOK.out p) k 4 (by have := HLL.out; omega)
      have hs2 := take_b (l.map (·.f0)) (fun y hy => by rw [List.mem_map] at hy; obtain ⟨z, hz, rfl⟩ := hy; have := (plotOk_iff z).1 (HOK.out z hz); omega) k 4 (by rw [List.length_map]; omega)
      have hs3 := take_b (l.map fun y => (bPick y D).2) (fun y hy => by rw [List.mem_map] at hy; obtain ⟨z, hz, rfl⟩ := hy; have := bPick_bound z (HOK.out z hz) D; omega) k 4 (by rw [List.length_map]; omega)
      rw [← List.map_take] at hs2 hs3
      rw [HS1.out] at hs1
      rw [HS2.out] at hs2
      rw [HS3.out] at hs3
      rw [HS1.out, HS2.out, HS3.out]
      obtain ⟨hs1a, hs1b⟩ := hs1
      obtain ⟨hs2a, hs2b⟩ := hs2
      obtain ⟨hs3a, hs3b⟩ := hs3
      obtain ⟨ja, hja⟩ := (iday_ev l HOK.out (by omega) D hDr k hlt).rounds
      obtain ⟨jb, hjb⟩ := (sday_ev l HOK.out (by omega) D hDr k hlt).rounds
      have hjc := worthOn_ev l HOK.out (by omega) k hlt d1 ⟨hd0, hd2⟩
      rw [HX.out] at hja hjb hjc
      rw [show pw x d1 = d2 by rw [← HD1.out, bPick_worth, HD2.out]] at hjc
      rw [HD1.out, HD2.out] at hja hjb
      obtain ⟨jc, hjc⟩ := hjc.rounds
      have HJA := Aside0.mk hja
      have HJB := Aside0.mk hjb
      have HJC := Aside0.mk hjc
      have HTK1 := Aside0.mk (show ((lostL l p).take (k + 1)).sum = s1 + ls by rw [take_sum _ k hkl, HS1.out, HLS.out])
      have HTK2 := Aside0.mk (show ((l.take (k + 1)).map (·.f0)).sum = s2 + x.f0 by rw [List.take_succ_eq_append_getElem hlt, List.map_append, List.sum_append, HS2.out, HX.out]; simp)
      have HTK3 := Aside0.mk (show ((l.take (k + 1)).map fun y => (bPick y D).2).sum = s3 + d2 by rw [List.take_succ_eq_append_getElem hlt, List.map_append, List.sum_append, HS3.out, HX.out]; simp [HD2.out])
      clear hja hjb hjc hd1 hxk
      go_wp2_with fail
      (with_reducible refine (impl_BestDay.calls ja (some ad2) cl l k D d1 d2 0 _ HRl.out HCl.out HJA.out).mono ?_); rintro e wz ⟨rfl, hb⟩
      replace HB := Aside0.mk (below_step (by repeat (first | (with_reducible first | exact HB.out | apply below_alloc | apply pw_below_drewN | apply below_drew1) | exact HB.out)) hb)
      replace HRl := Aside0.mk (Kd.C_below HRl.out hb)
      replace HRt := Aside0.mk (Kd.C_below HRt.out hb)
      clear hb
      go_wp2_with fail
      (with_reducible refine (spec_BestDay.calls jb (some ad2) cl l k D d1 d2 0 _ HRl.out HCl.out HJB.out).mono ?_); rintro e wz ⟨rfl, hb⟩
      replace HB := Aside0.mk (below_step (by repeat (first | (with_reducible first | exact HB.out | apply below_alloc | apply pw_below_drewN | apply below_drew1) | exact HB.out)) hb)
      replace HRl := Aside0.mk (Kd.C_below HRl.out hb)
      replace HRt := Aside0.mk (Kd.C_below HRt.out hb)
      clear hb
      go_wp2_with fail
      (with_reducible refine (impl_WorthOn.calls jc (some ad2) cl l k d1 d2 0 _ HRl.out HCl.out HJC.out).mono ?_); rintro e wz ⟨rfl, hb⟩
      replace HB := Aside0.mk (below_step (by repeat (first | (with_reducible first | exact HB.out | apply below_alloc | apply pw_below_drewN | apply below_drew1) | exact HB.out)) hb)
      replace HRl := Aside0.mk (Kd.C_below HRl.out hb)
      replace HRt := Aside0.mk (Kd.C_below HRt.out hb)
      clear hb
      go_wp2_with fail
      go_roundw
      case rel => exact ⟨k + 1, hlt, by go_num, by rw [HTK1.out], by rw [HTK2.out], by rw [HTK3.out], HRl, HRt, HB⟩
      case measure => simp [intOf]; omega
    · have q0 : ¬ (k : Int) < l.length := by omega
      obtain rfl : l.length = k := by omega
      have hsl := sum_lost l p HPL.out
      rw [HPS.out] at hsl
      have hb3 : (l.map fun y => (bPick y D).2).sum = bd := HBD.out
      have hll := HLL.out
      have hs1 := take_b (lostL l p) (lost_b l HOK.out p) l.length 4 (by omega)
      rw [List.take_length, show (lostL l p).take l.length = lostL l p by rw [← hll, List.take_length], hb3]
      rw [show (lostL l p).take l.length = lostL l p by rw [← hll, List.take_length]] at hs1
      obtain ⟨s1, HS1⟩ : ∃ s, Aside0 ((lostL l p).sum = s) := ⟨_, ⟨rfl⟩⟩
      obtain ⟨s2, HS2⟩ : ∃ s, Aside0 ((l.map (·.f0)).sum = s) := ⟨_, ⟨rfl⟩⟩
      rw [HS1.out] at hsl hs1
      rw [HS2.out] at hsl
      rw [HS1.out, HS2.out]
      obtain ⟨hs1a, hs1b⟩ := hs1
      have hfh := firstHands_best l D hn hhi
      rw [HV.out] at hfh
      obtain ⟨⟨r1, r2⟩, HFH⟩ : ∃ r, Aside0 (firstHands l D V = r) := ⟨_, ⟨rfl⟩⟩
      rw [HFH.out] at hfh
      obtain ⟨hr2, hr1⟩ := hfh
      obtain rfl : r2 = 0 := hr2
      replace hr1 : r1 ≤ (hn : Int) := hr1
      obtain ⟨ja, hja⟩ := (ihands_ev l HOK.out (by omega) D hDr V hpb1).rounds
      obtain ⟨jb, hjb⟩ := (shands_ev l HOK.out (by omega) D hDr V hpb1).rounds
      obtain ⟨jc, hjc⟩ := (ihands_ev l HOK.out (by omega) D hDr (bd + 1) (by omega)).rounds
      have hno := firstHands_none l HOK.out D (by omega)
      rw [HBD.out] at hno
      rw [HFH.out] at hja hjb
      rw [hno] at hjc
      have HJA := Aside0.mk hja
      have HJB := Aside0.mk hjb
      have HJC := Aside0.mk hjc
      clear hja hjb hjc hno hb3 hll
      obtain rfl : s2 = s1 + V := hsl.symm
      by_cases h3 : (hn : Int) < 3
      · obtain ⟨p2, _, _, _, ⟨jd, hjd⟩⟩ : ∃ p, okPlan ((hn : Int) + 1) D p ∧ p.length = l.length ∧ planSum l p = tryV l ((hn : Int) + 1) D [] ∧ (∃ k, impl_BestPlan.f k l ((hn : Int) + 1) D = some (p, tryV l ((hn : Int) + 1) D [], 0)) := by
          obtain ⟨p, h1, h2, h3, h4, h5⟩ := bestPlans l ((hn : Int) + 1) D HOK.out (by omega) (by omega) hDr
          exact ⟨p, h1, h2, h3, h4.rounds⟩
        have hv2 := tryV_hands l D (by omega) (hn : Int) ((hn : Int) + 1) (by omega) (by omega)
        obtain ⟨V2, HV2⟩ : ∃ V2, Aside0 (tryV l ((hn : Int) + 1) D [] = V2) := ⟨_, ⟨rfl⟩⟩
        rw [HV2.out] at hjd hv2
        rw [HV.out] at hv2
        have HJD := Aside0.mk hjd
        clear hjd
        go_wp2_with fail
        (with_reducible refine (impl_BestPlan.calls jd Al cl l ((hn : Int) + 1) D p2 V2 0 _ HRl.out HCl.out HJD.out).mono ?_); rintro e wz ⟨v, rfl, ho, hb⟩
        replace HB := Aside0.mk (below_step (by repeat (first | (with_reducible first | exact HB.out | apply below_alloc | apply pw_below_drewN | apply below_drew1) | exact HB.out)) hb)
        replace HRl := Aside0.mk (Kd.C_below HRl.out hb)
        clear ho hb
        go_wp2_with fail
        (with_reducible refine (impl_HandsFor.calls ja Al cl l D V r1 0 _ HRl.out HCl.out HJA.out).mono ?_); rintro e wz ⟨rfl, hb⟩
        replace HB := Aside0.mk (below_step (by repeat (first | (with_reducible first | exact HB.out | apply below_alloc | apply pw_below_drewN | apply below_drew1) | exact HB.out)) hb)
        replace HRl := Aside0.mk (Kd.C_below HRl.out hb)
        clear hb
        go_wp2_with fail
        (with_reducible refine (spec_HandsFor.calls jb Al cl l D V r1 0 _ HRl.out HCl.out HJB.out).mono ?_); rintro e wz ⟨rfl, hb⟩
        replace HB := Aside0.mk (below_step (by repeat (first | (with_reducible first | exact HB.out | apply below_alloc | apply pw_below_drewN | apply below_drew1) | exact HB.out)) hb)
        replace HRl := Aside0.mk (Kd.C_below HRl.out hb)
        clear hb
        go_wp2_with fail
        (with_reducible refine (impl_HandsFor.calls jc Al cl l D (bd + 1) 0 6 _ HRl.out HCl.out HJC.out).mono ?_); rintro e wz ⟨rfl, hb⟩
        replace HB := Aside0.mk (below_step (by repeat (first | (with_reducible first | exact HB.out | apply below_alloc | apply pw_below_drewN | apply below_drew1) | exact HB.out)) hb)
        replace HRl := Aside0.mk (Kd.C_below HRl.out hb)
        clear hb
        go_wp2_with fail
        go_ret
        exact ⟨rfl, HB.out⟩
      · go_wp2_with fail
        (with_reducible refine (impl_HandsFor.calls ja Al cl l D V r1 0 _ HRl.out HCl.out HJA.out).mono ?_); rintro e wz ⟨rfl, hb⟩
        replace HB := Aside0.mk (below_step (by repeat (first | (with_reducible first | exact HB.out | apply below_alloc | apply pw_below_drewN | apply below_drew1) | exact HB.out)) hb)
        replace HRl := Aside0.mk (Kd.C_below HRl.out hb)
        clear hb
        go_wp2_with fail
        (with_reducible refine (spec_HandsFor.calls jb Al cl l D V r1 0 _ HRl.out HCl.out HJB.out).mono ?_); rintro e wz ⟨rfl, hb⟩
        replace HB := Aside0.mk (below_step (by repeat (first | (with_reducible first | exact HB.out | apply below_alloc | apply pw_below_drewN | apply below_drew1) | exact HB.out)) hb)
        replace HRl := Aside0.mk (Kd.C_below HRl.out hb)
        clear hb
        go_wp2_with fail
        (with_reducible refine (impl_HandsFor.calls jc Al cl l D (bd + 1) 0 6 _ HRl.out HCl.out HJC.out).mono ?_); rintro e wz ⟨rfl, hb⟩
        replace HB := Aside0.mk (below_step (by repeat (first | (with_reducible first | exact HB.out | apply below_alloc | apply pw_below_drewN | apply below_drew1) | exact HB.out)) hb)
        replace HRl := Aside0.mk (Kd.C_below HRl.out hb)
        clear hb
        go_wp2_with fail
        go_ret
        exact ⟨rfl, HB.out⟩
theorem law_all (A0 : Option Addr) (c0 : Nat) (l0 : List Int) (A1 : Option Addr) (c1 : Nat) (l1 : List Int) (w : World) (HR0 : Aside0 (Kd.C (Kd.int .u8) w A0 l0.length l0)) (HC0 : Aside0 (l0.length ≤ c0)) (HR1 : Aside0 (Kd.C (Kd.int .u8) w A1 l1.length l1)) (HC1 : Aside0 (l1.length ≤ c1))
    (H0 : Aside0 (∀ b ∈ l0, 0 ≤ b ∧ b ≤ 255)) (H1 : Aside0 (∀ b ∈ l1, 0 ≤ b ∧ b ≤ 255)) :
    Calls Try.prog 3 #[.slice A0 l0.length c0, .slice A1 l1.length c1] w fun e w' => e = .returned (.bool true) ∧ Below w.heap.size w w' := by
  by_cases h0 : (l0.length : Int) > 4096
  · exact law_big0 A0 c0 l0 A1 c1 l1 w HR0 HC0 ⟨h0⟩
  · by_cases h1 : (l1.length : Int) > 4096
    · exact law_big1 A0 c0 l0 A1 c1 l1 w HR0 HC0 ⟨h0⟩ HR1 HC1 ⟨h1⟩
    · exact law_main A0 c0 l0 A1 c1 l1 w HR0 HC0 ⟨h0⟩ HR1 HC1 ⟨h1⟩ H0 H1
end Go.Proofs.Ytokeeplkbgdokaa

namespace Go.Proofs.Ytokeeplkbgdokaa.fnPlans
open Go.ChangeShapes Go.WideShapes Go.ChangeAt Go.RowKit
set_option linter.unusedVariables false
theorem own : ownKnob Try.prog.godebug = none := by kernel_rfl
theorem laidOut : laidOutB Try.prog = true := by kernel_rfl
def IsRow (k : IntKind) (w : World) (a : Option Addr) (len cap : Nat) (zs : List Int) : Prop :=
  (a = none ∧ len = 0 ∧ cap = 0 ∧ zs = []) ∨
  ∃ x, a = some x ∧ len ≤ cap ∧ cap ≤ maxLen ∧ zs.length = cap ∧ (∀ i, i < zs.length → w.cell? (x.add i) = some (.int k (zs.getD i 0))) ∧ ∀ n ∈ zs, (Lit.int k n).wf = true
theorem bytes_wf {l : List Int} (h : ∀ n ∈ l, (Lit.int .u8 n).wf = true) : ∀ b ∈ l, 0 ≤ b ∧ b ≤ 255 := fun b hb => bounds_u8 (h b hb)
theorem walk2 (a0 : Option Addr) (len0 cap0 : Nat) (z0 : List Int) (a1 : Option Addr) (len1 cap1 : Nat) (z1 : List Int) (w : World)
    (w0 : IsRow .u8 w a0 len0 cap0 z0) (w1 : IsRow .u8 w a1 len1 cap1 z1) :
    Calls Try.prog 3 #[.slice a0 len0 cap0, .slice a1 len1 cap1] w fun e w' => e = .returned (.bool true) ∧ Below w.heap.size w w' := by
  obtain ⟨l0, rfl, hr0, hm0, hw0, hc0⟩ := YtokeeplkbgdokaaW.PrintWords.ReadsInt.ofRowC w0
  obtain ⟨l1, rfl, hr1, hm1, hw1, hc1⟩ := YtokeeplkbgdokaaW.PrintWords.ReadsInt.ofRowC w1
  exact law_all a0 cap0 l0 a1 cap1 l1 w ⟨YtokeeplkbgdokaaW.PrintWords.Kd.C_of_reads (d := (0 : Int)) (h1 := fun _ => rfl) hr0⟩ ⟨hc0⟩ ⟨YtokeeplkbgdokaaW.PrintWords.Kd.C_of_reads (d := (0 : Int)) (h1 := fun _ => rfl) hr1⟩ ⟨hc1⟩ ⟨bytes_wf hw0⟩ ⟨bytes_wf hw1⟩
set_option maxRecDepth 100000 in
theorem lifted (os : Os) (started : os.Started) (H : Type) (enc : TypeId × Value → H) :
    ReturnsInHanded {} Try.checked os 3 .any (Rows.fnPlansSpec.pre6 enc Try.prog Try.f3 Rows.fnPlansRow.domain false) (Rows.fnPlansSpec.post enc Try.prog Try.f3 false true false false) := by
  refine returnsInHanded_of_change_sized (C := Try.checked) own started (by kernel_rfl) Try.func3
    (ChangeSpec.witness6 (enc := enc) (C := Try.checked) false ⟨#[], #[.slice none 0 0, .slice none 0 0], []⟩ 8 (by kernel_rfl) (by kernel_rfl) (by kernel_rfl) (by kernel_rfl)) ?_
  intro W base args ds gs before hval0 hW hcnd hsz0 _
  have hval : ∀ (j : Nat) t v, Try.f3.params[j]? = some t → args[j]? = some v → Value.okWide Try.prog W .any base t v := hval0
  have hW' := hW
  obtain ⟨p, q, hA0, hV, rfl, hfz, hnd⟩ := hW
  have hA : DataW.TrodAll enc Try.prog W 0 (fun _ => true) true Try.f3.params.toList args.toList ds p := hA0
  rw [Try.params3] at hA hval
  obtain ⟨v0, vs0, d0, ds0, p0, q0, hargs, rfl, rfl, h0, r0⟩ := trodAll_cons hA
  obtain ⟨v1, vs1, d1, ds1, p1, q1, rfl, rfl, rfl, h1, r1⟩ := trodAll_cons r0
  obtain ⟨rfl, rfl, rfl⟩ := trodAll_nil r1
  obtain rfl : args = #[v0, v1] := by cases args; simp_all
  obtain ⟨rfl, rfl⟩ := trodVars_none hV
  obtain ⟨a0, len0, cap0, rfl⟩ := okWide_slice Try.underlying22 (hval 0 22 v0 rfl rfl)
  have k0 := h0
  have lt0 : ∀ x ∈ p0, x.block < W.heap.size := by obtain ⟨m, hm⟩ := k0; exact DataW.trod_lt m _ _ _ hm
  obtain ⟨z0, w0⟩ : ∃ zs, IsRow .u8 W a0 len0 cap0 zs := by
    obtain ⟨fuel, hf⟩ := h0
    rcases open_ints Try.underlying22 Try.underlying5 (by kernel_rfl) hf with ⟨hcs, _⟩ | ⟨x, l, c, zs, hcs, _, hl, hm, hz, _, hcell, hwz⟩
    · simp [Value.cells] at hcs
      obtain ⟨rfl, rfl, rfl⟩ := hcs
      exact ⟨[], .inl ⟨rfl, rfl, rfl, rfl⟩⟩
    · simp [Value.cells] at hcs
      obtain ⟨rfl, rfl, rfl⟩ := hcs
      exact ⟨zs, .inr ⟨_, rfl, hl, hm, by simpa using hz, hcell, hwz⟩⟩
  obtain ⟨a1, len1, cap1, rfl⟩ := okWide_slice Try.underlying22 (hval 1 22 v1 rfl rfl)
  have k1 := h1
  have lt1 : ∀ x ∈ p1, x.block < W.heap.size := by obtain ⟨m, hm⟩ := k1; exact DataW.trod_lt m _ _ _ hm
  obtain ⟨z1, w1⟩ : ∃ zs, IsRow .u8 W a1 len1 cap1 zs := by
    obtain ⟨fuel, hf⟩ := h1
    rcases open_ints Try.underlying22 Try.underlying5 (by kernel_rfl) hf with ⟨hcs, _⟩ | ⟨x, l, c, zs, hcs, _, hl, hm, hz, _, hcell, hwz⟩
    · simp [Value.cells] at hcs
      obtain ⟨rfl, rfl, rfl⟩ := hcs
      exact ⟨[], .inl ⟨rfl, rfl, rfl, rfl⟩⟩
    · simp [Value.cells] at hcs
      obtain ⟨rfl, rfl, rfl⟩ := hcs
      exact ⟨zs, .inr ⟨_, rfl, hl, hm, by simpa using hz, hcell, hwz⟩⟩
  clear hA0 hval0 hsz0
  refine (walk2 a0 len0 cap0 z0 a1 len1 cap1 z1 W w0 w1).mono fun e W' ⟨he, bel⟩ => ?_
  subst he
  exact ⟨_, rfl, _, _, _, [], _, [], hW', trodAll_mk1 (shut_bool Try.underlying4 _), (trodAll_cons_mk (Below.trod laidOut (by kernel_rfl) (of_decide_eq_true (by kernel_rfl)) k0 bel lt0) (trodAll_cons_mk (Below.trod laidOut (by kernel_rfl) (of_decide_eq_true (by kernel_rfl)) k1 bel lt1) trodAll_mk0)), rfl, bel.frame _, fun h => by cases h⟩
theorem over : Rows.fnPlansRow.holds Try.pinned (OpenSpec.ofChange Rows.fnPlansSpec) :=
  OpenClaim.holds_of_wide 3 Try.f3 rfl rfl rfl rfl rfl rfl rfl ⟨rfl, rfl, rfl, rfl, rfl⟩ rfl rfl rfl rfl rfl (by kernel_rfl) Try.func3 (by kernel_rfl)
    (of_decide_eq_true (by kernel_rfl)) (by unfold Func.isWrapper; first | (rw [if_pos (by decide +kernel)]; kernel_rfl) | (rw [if_neg (by decide +kernel)]; exact ⟨rfl, rfl⟩))
    (fun os started H enc _ => lifted os started H enc)
end Go.Proofs.Ytokeeplkbgdokaa.fnPlans
namespace Go.Proofs.Ytokeeplkbgdokaa
/-- The row, under a short name, for the claim. -/
theorem fnPlans_holds : Rows.FnPlansSaid := fnPlans.over
#print axioms fnPlans_holds
end Go.Proofs.Ytokeeplkbgdokaa
