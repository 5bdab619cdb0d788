/- Functions of the program as Lean functions, each with a proof that a call of it comes to just that. Written by this session's program wip/tools/myprint.py. -/
import Derived.Test.YtokeeplkbgdokaaGo0
/- Functions of the program as Lean functions, each with a proof that a call of it comes to just that. Written by this session's program wip/tools/myprint.py. -/
namespace Go.Proofs.Ytokeeplkbgdokaa.Pq
open Go.RowKit Go.Proofs.YtokeeplkbgdokaaW.PrintWords Go.Proofs.YtokeeplkbgdokaaW.PrintLast Go.Proofs.YtokeeplkbgdokaaW.PrintMore
attribute [local go_sem] max2_int min2_int max_two min_two max_three min_three max_four min_four   -- for this text's walks alone
set_option linter.unusedVariables false
set_option linter.unusedSimpArgs false

/-! ### impl_most: function 45 -/
mutual
def impl_most.l0 : Nat → Int → Int → List Int → List (S40) → List Int → Int → Int → Option (Int)
 | 0, _, _, _, _, _, _, _ => none
 | k + 1, x1, x2, x3, x9, x10, x37, x38 => if x38 < x37 then (if x10.length < 17592186044416 then (impl_most.l0 k x1 x2 x3 x9 (x10 ++ [(-1)]) x37 (wrap64 (x38 + 1))) else (none)) else (impl_most.l1 k x1 x3 x9 x10 x2 0)
def impl_most.l1 : Nat → Int → List Int → List (S40) → List Int → Int → Int → Option (Int)
 | 0, _, _, _, _, _, _ => none
 | k + 1, x1, x3, x9, x10, x44, x45 => if x45 < x44 then (impl_most.l2 k x1 x3 x9 x10 x45 x1 x44 x45 x3 (x3.length : Int) 0) else ((slices_Max.f x10).bind fun t185 => (some t185))
def impl_most.l2 : Nat → Int → List Int → List (S40) → List Int → Int → Int → Int → Int → List Int → Int → Int → Option (Int)
 | 0, _, _, _, _, _, _, _, _, _, _, _ => none
 | k + 1, x1, x3, x9, x10, x11, x12, x44, x45, x49, x50, x51 => if x51 < x50 then (if 0 ≤ x51 then (if x51 < (x49.length : Int) then (if (rd x49 x51) = x11 then (impl_most.l2 k x1 x3 x9 x10 x11 (wrap64 (x12 - 1)) x44 x45 x49 x50 (wrap64 (x51 + 1))) else (impl_most.l2 k x1 x3 x9 x10 x11 x12 x44 x45 x49 x50 (wrap64 (x51 + 1)))) else (none)) else (none)) else (if x12 < 0 then (some (-1)) else ((slices_Clone.f x10).bind fun t187 => (impl_most.l3 k x1 x3 x9 x10 x11 x12 t187 x44 x45 x10 (x10.length : Int) 0)))
def impl_most.l3 : Nat → Int → List Int → List (S40) → List Int → Int → Int → List Int → Int → Int → List Int → Int → Int → Option (Int)
 | 0, _, _, _, _, _, _, _, _, _, _, _, _ => none
 | k + 1, x1, x3, x9, x10, x11, x12, x15, x44, x45, x65, x66, x67 => if x67 < x66 then (if 0 ≤ x67 then (if x67 < (x65.length : Int) then (if (rd x65 x67) < 0 then (impl_most.l3 k x1 x3 x9 x10 x11 x12 x15 x44 x45 x65 x66 (wrap64 (x67 + 1))) else (impl_most.l4 k x1 x3 x9 x10 x11 x12 x15 x67 (rd x65 x67) x44 x45 x65 x66 x67 (x10.length : Int) 0)) else (none)) else (none)) else (impl_most.l1 k x1 x3 x9 x15 x44 (wrap64 (x45 + 1)))
def impl_most.l4 : Nat → Int → List Int → List (S40) → List Int → Int → Int → List Int → Int → Int → Int → Int → List Int → Int → Int → Int → Int → Option (Int)
 | 0, _, _, _, _, _, _, _, _, _, _, _, _, _, _, _, _ => none
 | k + 1, x1, x3, x9, x10, x11, x12, x15, x16, x17, x44, x45, x65, x66, x67, x75, x76 => if x76 < x75 then (if (Go.bits .and .i64 x16 x76) = 0 then ((bits_OnesCount.f (IntKind.u64.wrap (x76))).bind fun t191 => (impl_most.j5 k x1 x3 x9 x10 x11 x12 x15 x16 x17 x76 x44 x45 x65 x66 x67 x75 x76 (decide (t191 > x12)))) else (impl_most.j5 k x1 x3 x9 x10 x11 x12 x15 x16 x17 x76 x44 x45 x65 x66 x67 x75 x76 true)) else (impl_most.l3 k x1 x3 x9 x10 x11 x12 x15 x44 x45 x65 x66 (wrap64 (x67 + 1)))
def impl_most.j5 : Nat → Int → List Int → List (S40) → List Int → Int → Int → List Int → Int → Int → Int → Int → Int → List Int → Int → Int → Int → Int → Bool → Option (Int)
 | 0, _, _, _, _, _, _, _, _, _, _, _, _, _, _, _, _, _, _ => none
 | k + 1, x1, x3, x9, x10, x11, x12, x15, x16, x17, x18, x44, x45, x65, x66, x67, x75, x76, x89 => if x89 = true then (impl_most.l4 k x1 x3 x9 x10 x11 x12 x15 x16 x17 x44 x45 x65 x66 x67 x75 (wrap64 (x76 + 1))) else (impl_most.l5 k x1 x3 x9 x10 x11 x12 x15 x16 x17 x18 x17 x44 x45 x65 x66 x67 x75 x76 x9 (x9.length : Int) 0)
def impl_most.l5 : Nat → Int → List Int → List (S40) → List Int → Int → Int → List Int → Int → Int → Int → Int → Int → Int → List Int → Int → Int → Int → Int → List (S40) → Int → Int → Option (Int)
 | 0, _, _, _, _, _, _, _, _, _, _, _, _, _, _, _, _, _, _, _, _, _ => none
 | k + 1, x1, x3, x9, x10, x11, x12, x15, x16, x17, x18, x19, x44, x45, x65, x66, x67, x75, x76, x91, x92, x93 => if x93 < x92 then (if 0 ≤ x93 then (if x93 < (x91.length : Int) then (if (Go.bits .and .i64 (shr .i64 x18 x93) 1) = 1 then ((impl_Plot_worth.f ((rd_T40 x91 x93).f0) ((rd_T40 x91 x93).f1) ((rd_T40 x91 x93).f2) ((rd_T40 x91 x93).f3) x11).bind fun t194 => (impl_most.l5 k x1 x3 x9 x10 x11 x12 x15 x16 x17 x18 (wrap64 (x19 + t194)) x44 x45 x65 x66 x67 x75 x76 x91 x92 (wrap64 (x93 + 1)))) else (impl_most.l5 k x1 x3 x9 x10 x11 x12 x15 x16 x17 x18 x19 x44 x45 x65 x66 x67 x75 x76 x91 x92 (wrap64 (x93 + 1)))) else (none)) else (none)) else (if 0 ≤ (Go.bits .or .i64 x16 x18) then (if (Go.bits .or .i64 x16 x18) < (x15.length : Int) then (impl_most.l4 k x1 x3 x9 x10 x11 x12 (x15.set ((Go.bits .or .i64 x16 x18) : Int).toNat (mx (rd x15 (Go.bits .or .i64 x16 x18)) x19)) x16 x17 x44 x45 x65 x66 x67 x75 (wrap64 (x76 + 1))) else (none)) else (none))
end
def impl_most.f (k : Nat) (l0 : List (S40)) (a1 : Int) (a2 : Int) (l3 : List Int) : Option (Int) := if 0 ≤ (l3.length : Int) then (if (l3.length : Int) ≤ (l0.length : Int) then ((some (l0.drop ((l3.length : Int) : Int).toNat : List (S40))).bind fun y167 => ((impl_worths.f k (l0.take ((l3.length : Int) : Int).toNat) l3).bind fun t175 => ((impl_total.f k t175).bind fun t178 => (impl_most.l0 k a1 a2 l3 y167 (([t178] : List Int)) (wrap64 ((shl .i64 1 (y167.length : Int)) - 1)) 0)))) else (none)) else (none)
theorem impl_most.mono_l : ∀ k, (∀ y0 y1 y2 y3 y4 y5 y6, LeO (impl_most.l0 k y0 y1 y2 y3 y4 y5 y6) (impl_most.l0 (k + 1) y0 y1 y2 y3 y4 y5 y6)) ∧ (∀ y0 y1 y2 y3 y4 y5, LeO (impl_most.l1 k y0 y1 y2 y3 y4 y5) (impl_most.l1 (k + 1) y0 y1 y2 y3 y4 y5)) ∧ (∀ y0 y1 y2 y3 y4 y5 y6 y7 y8 y9 y10, LeO (impl_most.l2 k y0 y1 y2 y3 y4 y5 y6 y7 y8 y9 y10) (impl_most.l2 (k + 1) y0 y1 y2 y3 y4 y5 y6 y7 y8 y9 y10)) ∧ (∀ y0 y1 y2 y3 y4 y5 y6 y7 y8 y9 y10 y11, LeO (impl_most.l3 k y0 y1 y2 y3 y4 y5 y6 y7 y8 y9 y10 y11) (impl_most.l3 (k + 1) y0 y1 y2 y3 y4 y5 y6 y7 y8 y9 y10 y11)) ∧ (∀ y0 y1 y2 y3 y4 y5 y6 y7 y8 y9 y10 y11 y12 y13 y14 y15, LeO (impl_most.l4 k y0 y1 y2 y3 y4 y5 y6 y7 y8 y9 y10 y11 y12 y13 y14 y15) (impl_most.l4 (k + 1) y0 y1 y2 y3 y4 y5 y6 y7 y8 y9 y10 y11 y12 y13 y14 y15)) ∧ (∀ y0 y1 y2 y3 y4 y5 y6 y7 y8 y9 y10 y11 y12 y13 y14 y15 y16 y17, LeO (impl_most.j5 k y0 y1 y2 y3 y4 y5 y6 y7 y8 y9 y10 y11 y12 y13 y14 y15 y16 y17) (impl_most.j5 (k + 1) y0 y1 y2 y3 y4 y5 y6 y7 y8 y9 y10 y11 y12 y13 y14 y15 y16 y17)) ∧ (∀ y0 y1 y2 y3 y4 y5 y6 y7 y8 y9 y10 y11 y12 y13 y14 y15 y16 y17 y18 y19 y20, LeO (impl_most.l5 k y0 y1 y2 y3 y4 y5 y6 y7 y8 y9 y10 y11 y12 y13 y14 y15 y16 y17 y18 y19 y20) (impl_most.l5 (k + 1) y0 y1 y2 y3 y4 y5 y6 y7 y8 y9 y10 y11 y12 y13 y14 y15 y16 y17 y18 y19 y20))
 | 0 => ⟨fun _ _ _ _ _ _ _ r h => by simp [impl_most.l0] at h, fun _ _ _ _ _ _ r h => by simp [impl_most.l1] at h, fun _ _ _ _ _ _ _ _ _ _ _ r h => by simp [impl_most.l2] at h, fun _ _ _ _ _ _ _ _ _ _ _ _ r h => by simp [impl_most.l3] at h, fun _ _ _ _ _ _ _ _ _ _ _ _ _ _ _ _ r h => by simp [impl_most.l4] at h, fun _ _ _ _ _ _ _ _ _ _ _ _ _ _ _ _ _ _ r h => by simp [impl_most.j5] at h, fun _ _ _ _ _ _ _ _ _ _ _ _ _ _ _ _ _ _ _ _ _ r h => by simp [impl_most.l5] at h⟩
 | k + 1 => by
  obtain ⟨ih0, ih1, ih2, ih3, ih4, ih5, ih6⟩ := impl_most.mono_l k
  refine ⟨?_, ?_, ?_, ?_, ?_, ?_, ?_⟩
  ·intro y0 y1 y2 y3 y4 y5 y6
   unfold impl_most.l0
   repeat' first
   | (with_reducible exact ih0 _ _ _ _ _ _ _)
   | (with_reducible exact ih1 _ _ _ _ _ _)
   | (with_reducible exact ih2 _ _ _ _ _ _ _ _ _ _ _)
   | (with_reducible exact ih3 _ _ _ _ _ _ _ _ _ _ _ _)
   | (with_reducible exact ih4 _ _ _ _ _ _ _ _ _ _ _ _ _ _ _ _)
   | (with_reducible exact ih5 _ _ _ _ _ _ _ _ _ _ _ _ _ _ _ _ _ _)
   | (with_reducible exact ih6 _ _ _ _ _ _ _ _ _ _ _ _ _ _ _ _ _ _ _ _ _)
   | (with_reducible exact impl_total.mono _ _)
   | (with_reducible exact impl_worths.mono _ _ _)
   | (with_reducible exact LeO.refl _)
   | (with_reducible exact LeO.none _)
   | (with_reducible refine LeO.ite ?_ ?_)
   | (with_reducible refine LeO.bind ?_ (fun _ => ?_))
   | exact ih0 _ _ _ _ _ _ _
   | exact ih1 _ _ _ _ _ _
   | exact ih2 _ _ _ _ _ _ _ _ _ _ _
   | exact ih3 _ _ _ _ _ _ _ _ _ _ _ _
   | exact ih4 _ _ _ _ _ _ _ _ _ _ _ _ _ _ _ _
   | exact ih5 _ _ _ _ _ _ _ _ _ _ _ _ _ _ _ _ _ _
   | exact ih6 _ _ _ _ _ _ _ _ _ _ _ _ _ _ _ _ _ _ _ _ _
   | exact impl_total.mono _ _
   | exact impl_worths.mono _ _ _
   | exact LeO.none _
   | refine LeO.ite ?_ ?_
   | refine LeO.bind ?_ (fun _ => ?_)
  ·intro y0 y1 y2 y3 y4 y5
   unfold impl_most.l1
   repeat' first
   | (with_reducible exact ih0 _ _ _ _ _ _ _)
   | (with_reducible exact ih1 _ _ _ _ _ _)
   | (with_reducible exact ih2 _ _ _ _ _ _ _ _ _ _ _)
   | (with_reducible exact ih3 _ _ _ _ _ _ _ _ _ _ _ _)
   | (with_reducible exact ih4 _ _ _ _ _ _ _ _ _ _ _ _ _ _ _ _)
   | (with_reducible exact ih5 _ _ _ _ _ _ _ _ _ _ _ _ _ _ _ _ _ _)
   | (with_reducible exact ih6 _ _ _ _ _ _ _ _ _ _ _ _ _ _ _ _ _ _ _ _ _)
   | (with_reducible exact impl_total.mono _ _)
   | (with_reducible exact impl_worths.mono _ _ _)
   | (with_reducible exact LeO.refl _)
   | (with_reducible exact LeO.none _)
   | (with_reducible refine LeO.ite ?_ ?_)
   | (with_reducible refine LeO.bind ?_ (fun _ => ?_))
   | exact ih0 _ _ _ _ _ _ _
   | exact ih1 _ _ _ _ _ _
   | exact ih2 _ _ _ _ _ _ _ _ _ _ _
   | exact ih3 _ _ _ _ _ _ _ _ _ _ _ _
   | exact ih4 _ _ _ _ _ _ _ _ _ _ _ _ _ _ _ _
   | exact ih5 _ _ _ _ _ _ _ _ _ _ _ _ _ _ _ _ _ _
   | exact ih6 _ _ _ _ _ _ _ _ _ _ _ _ _ _ _ _ _ _ _ _ _
   | exact impl_total.mono _ _
   | exact impl_worths.mono _ _ _
   | exact LeO.none _
   | refine LeO.ite ?_ ?_
   | refine LeO.bind ?_ (fun _ => ?_)
  ·intro y0 y1 y2 y3 y4 y5 y6 y7 y8 y9 y10
   unfold impl_most.l2
   repeat' first
   | (with_reducible exact ih0 _ _ _ _ _ _ _)
   | (with_reducible exact ih1 _ _ _ _ _ _)
   | (with_reducible exact ih2 _ _ _ _ _ _ _ _ _ _ _)
   | (with_reducible exact ih3 _ _ _ _ _ _ _ _ _ _ _ _)
   | (with_reducible exact ih4 _ _ _ _ _ _ _ _ _ _ _ _ _ _ _ _)
   | (with_reducible exact ih5 _ _ _ _ _ _ _ _ _ _ _ _ _ _ _ _ _ _)
   | (with_reducible exact ih6 _ _ _ _ _ _ _ _ _ _ _ _ _ _ _ _ _ _ _ _ _)
   | (with_reducible exact impl_total.mono _ _)
   | (with_reducible exact impl_worths.mono _ _ _)
   | (with_reducible exact LeO.refl _)
   | (with_reducible exact LeO.none _)
   | (with_reducible refine LeO.ite ?_ ?_)
   | (with_reducible refine LeO.bind ?_ (fun _ => ?_))
   | exact ih0 _ _ _ _ _ _ _
   | exact ih1 _ _ _ _ _ _
   | exact ih2 _ _ _ _ _ _ _ _ _ _ _
   | exact ih3 _ _ _ _ _ _ _ _ _ _ _ _
   | exact ih4 _ _ _ _ _ _ _ _ _ _ _ _ _ _ _ _
   | exact ih5 _ _ _ _ _ _ _ _ _ _ _ _ _ _ _ _ _ _
   | exact ih6 _ _ _ _ _ _ _ _ _ _ _ _ _ _ _ _ _ _ _ _ _
   | exact impl_total.mono _ _
   | exact impl_worths.mono _ _ _
   | exact LeO.none _
   | refine LeO.ite ?_ ?_
   | refine LeO.bind ?_ (fun _ => ?_)
  ·intro y0 y1 y2 y3 y4 y5 y6 y7 y8 y9 y10 y11
   unfold impl_most.l3
   repeat' first
   | (with_reducible exact ih0 _ _ _ _ _ _ _)
   | (with_reducible exact ih1 _ _ _ _ _ _)
   | (with_reducible exact ih2 _ _ _ _ _ _ _ _ _ _ _)
   | (with_reducible exact ih3 _ _ _ _ _ _ _ _ _ _ _ _)
   | (with_reducible exact ih4 _ _ _ _ _ _ _ _ _ _ _ _ _ _ _ _)
   | (with_reducible exact ih5 _ _ _ _ _ _ _ _ _ _ _ _ _ _ _ _ _ _)
   | (with_reducible exact ih6 _ _ _ _ _ _ _ _ _ _ _ _ _ _ _ _ _ _ _ _ _)
   | (with_reducible exact impl_total.mono _ _)
   | (with_reducible exact impl_worths.mono _ _ _)
   | (with_reducible exact LeO.refl _)
   | (with_reducible exact LeO.none _)
   | (with_reducible refine LeO.ite ?_ ?_)
   | (with_reducible refine LeO.bind ?_ (fun _ => ?_))
   | exact ih0 _ _ _ _ _ _ _
   | exact ih1 _ _ _ _ _ _
   | exact ih2 _ _ _ _ _ _ _ _ _ _ _
   | exact ih3 _ _ _ _ _ _ _ _ _ _ _ _
   | exact ih4 _ _ _ _ _ _ _ _ _ _ _ _ _ _ _ _
   | exact ih5 _ _ _ _ _ _ _ _ _ _ _ _ _ _ _ _ _ _
   | exact ih6 _ _ _ _ _ _ _ _ _ _ _ _ _ _ _ _ _ _ _ _ _
   | exact impl_total.mono _ _
   | exact impl_worths.mono _ _ _
   | exact LeO.none _
   | refine LeO.ite ?_ ?_
   | refine LeO.bind ?_ (fun _ => ?_)
  ·intro y0 y1 y2 y3 y4 y5 y6 y7 y8 y9 y10 y11 y12 y13 y14 y15
   unfold impl_most.l4
   repeat' first
   | (with_reducible exact ih0 _ _ _ _ _ _ _)
   | (with_reducible exact ih1 _ _ _ _ _ _)
   | (with_reducible exact ih2 _ _ _ _ _ _ _ _ _ _ _)
   | (with_reducible exact ih3 _ _ _ _ _ _ _ _ _ _ _ _)
   | (with_reducible exact ih4 _ _ _ _ _ _ _ _ _ _ _ _ _ _ _ _)
   | (with_reducible exact ih5 _ _ _ _ _ _ _ _ _ _ _ _ _ _ _ _ _ _)
   | (with_reducible exact ih6 _ _ _ _ _ _ _ _ _ _ _ _ _ _ _ _ _ _ _ _ _)
   | (with_reducible exact impl_total.mono _ _)
   | (with_reducible exact impl_worths.mono _ _ _)
   | (with_reducible exact LeO.refl _)
   | (with_reducible exact LeO.none _)
   | (with_reducible refine LeO.ite ?_ ?_)
   | (with_reducible refine LeO.bind ?_ (fun _ => ?_))
   | exact ih0 _ _ _ _ _ _ _
   | exact ih1 _ _ _ _ _ _
   | exact ih2 _ _ _ _ _ _ _ _ _ _ _
   | exact ih3 _ _ _ _ _ _ _ _ _ _ _ _
   | exact ih4 _ _ _ _ _ _ _ _ _ _ _ _ _ _ _ _
   | exact ih5 _ _ _ _ _ _ _ _ _ _ _ _ _ _ _ _ _ _
   | exact ih6 _ _ _ _ _ _ _ _ _ _ _ _ _ _ _ _ _ _ _ _ _
   | exact impl_total.mono _ _
   | exact impl_worths.mono _ _ _
   | exact LeO.none _
   | refine LeO.ite ?_ ?_
   | refine LeO.bind ?_ (fun _ => ?_)
  ·intro y0 y1 y2 y3 y4 y5 y6 y7 y8 y9 y10 y11 y12 y13 y14 y15 y16 y17
   unfold impl_most.j5
   repeat' first
   | (with_reducible exact ih0 _ _ _ _ _ _ _)
   | (with_reducible exact ih1 _ _ _ _ _ _)
   | (with_reducible exact ih2 _ _ _ _ _ _ _ _ _ _ _)
   | (with_reducible exact ih3 _ _ _ _ _ _ _ _ _ _ _ _)
   | (with_reducible exact ih4 _ _ _ _ _ _ _ _ _ _ _ _ _ _ _ _)
   | (with_reducible exact ih5 _ _ _ _ _ _ _ _ _ _ _ _ _ _ _ _ _ _)
   | (with_reducible exact ih6 _ _ _ _ _ _ _ _ _ _ _ _ _ _ _ _ _ _ _ _ _)
   | (with_reducible exact impl_total.mono _ _)
   | (with_reducible exact impl_worths.mono _ _ _)
   | (with_reducible exact LeO.refl _)
   | (with_reducible exact LeO.none _)
   | (with_reducible refine LeO.ite ?_ ?_)
   | (with_reducible refine LeO.bind ?_ (fun _ => ?_))
   | exact ih0 _ _ _ _ _ _ _
   | exact ih1 _ _ _ _ _ _
   | exact ih2 _ _ _ _ _ _ _ _ _ _ _
   | exact ih3 _ _ _ _ _ _ _ _ _ _ _ _
   | exact ih4 _ _ _ _ _ _ _ _ _ _ _ _ _ _ _ _
   | exact ih5 _ _ _ _ _ _ _ _ _ _ _ _ _ _ _ _ _ _
   | exact ih6 _ _ _ _ _ _ _ _ _ _ _ _ _ _ _ _ _ _ _ _ _
   | exact impl_total.mono _ _
   | exact impl_worths.mono _ _ _
   | exact LeO.none _
   | refine LeO.ite ?_ ?_
   | refine LeO.bind ?_ (fun _ => ?_)
  ·intro y0 y1 y2 y3 y4 y5 y6 y7 y8 y9 y10 y11 y12 y13 y14 y15 y16 y17 y18 y19 y20
   unfold impl_most.l5
   repeat' first
   | (with_reducible exact ih0 _ _ _ _ _ _ _)
   | (with_reducible exact ih1 _ _ _ _ _ _)
   | (with_reducible exact ih2 _ _ _ _ _ _ _ _ _ _ _)
   | (with_reducible exact ih3 _ _ _ _ _ _ _ _ _ _ _ _)
   | (with_reducible exact ih4 _ _ _ _ _ _ _ _ _ _ _ _ _ _ _ _)
   | (with_reducible exact ih5 _ _ _ _ _ _ _ _ _ _ _ _ _ _ _ _ _ _)
   | (with_reducible exact ih6 _ _ _ _ _ _ _ _ _ _ _ _ _ _ _ _ _ _ _ _ _)
   | (with_reducible exact impl_total.mono _ _)
   | (with_reducible exact impl_worths.mono _ _ _)
   | (with_reducible exact LeO.refl _)
   | (with_reducible exact LeO.none _)
   | (with_reducible refine LeO.ite ?_ ?_)
   | (with_reducible refine LeO.bind ?_ (fun _ => ?_))
   | exact ih0 _ _ _ _ _ _ _
   | exact ih1 _ _ _ _ _ _
   | exact ih2 _ _ _ _ _ _ _ _ _ _ _
   | exact ih3 _ _ _ _ _ _ _ _ _ _ _ _
   | exact ih4 _ _ _ _ _ _ _ _ _ _ _ _ _ _ _ _
   | exact ih5 _ _ _ _ _ _ _ _ _ _ _ _ _ _ _ _ _ _
   | exact ih6 _ _ _ _ _ _ _ _ _ _ _ _ _ _ _ _ _ _ _ _ _
   | exact impl_total.mono _ _
   | exact impl_worths.mono _ _ _
   | exact LeO.none _
   | refine LeO.ite ?_ ?_
   | refine LeO.bind ?_ (fun _ => ?_)
theorem impl_most.mono : ∀ a0 a1 a2 a3 k, LeO (impl_most.f k a0 a1 a2 a3) (impl_most.f (k + 1) a0 a1 a2 a3) := by
 intro a0 a1 a2 a3 k
 obtain ⟨ih0, ih1, ih2, ih3, ih4, ih5, ih6⟩ := impl_most.mono_l k
 unfold impl_most.f
 repeat' first
   | (with_reducible exact ih0 _ _ _ _ _ _ _)
   | (with_reducible exact ih1 _ _ _ _ _ _)
   | (with_reducible exact ih2 _ _ _ _ _ _ _ _ _ _ _)
   | (with_reducible exact ih3 _ _ _ _ _ _ _ _ _ _ _ _)
   | (with_reducible exact ih4 _ _ _ _ _ _ _ _ _ _ _ _ _ _ _ _)
   | (with_reducible exact ih5 _ _ _ _ _ _ _ _ _ _ _ _ _ _ _ _ _ _)
   | (with_reducible exact ih6 _ _ _ _ _ _ _ _ _ _ _ _ _ _ _ _ _ _ _ _ _)
   | (with_reducible exact impl_total.mono _ _)
   | (with_reducible exact impl_worths.mono _ _ _)
   | (with_reducible exact LeO.refl _)
   | (with_reducible exact LeO.none _)
   | (with_reducible refine LeO.ite ?_ ?_)
   | (with_reducible refine LeO.bind ?_ (fun _ => ?_))
   | exact ih0 _ _ _ _ _ _ _
   | exact ih1 _ _ _ _ _ _
   | exact ih2 _ _ _ _ _ _ _ _ _ _ _
   | exact ih3 _ _ _ _ _ _ _ _ _ _ _ _
   | exact ih4 _ _ _ _ _ _ _ _ _ _ _ _ _ _ _ _
   | exact ih5 _ _ _ _ _ _ _ _ _ _ _ _ _ _ _ _ _ _
   | exact ih6 _ _ _ _ _ _ _ _ _ _ _ _ _ _ _ _ _ _ _ _ _
   | exact impl_total.mono _ _
   | exact impl_worths.mono _ _ _
   | exact LeO.none _
   | refine LeO.ite ?_ ?_
   | refine LeO.bind ?_ (fun _ => ?_)
def impl_most.T1 : Bool × List (List Nat × List Nat) := (true, [([], []), ([], []), ([1], [1]), ([0, 2], [0, 2]), ([], []), ([], []), ([5], [5]), ([4, 6], [4, 6]), ([], []), ([7, 8], [7, 8]), ([9, 9], [9]), ([10], [10]), ([3, 10, 0, 1, 2, 3], [3]), ([11, 12, 0, 1, 2, 3, 4, 5, 6, 7, 8, 9, 10, 11, 12], [11])])
def impl_most.B1 : List Nat := [0, 0, 2, 7, 0, 0, 32, 112, 0, 496, 1008, 2032, 2047, 8191]
theorem impl_most.tab1 : rtab .any (opsOf Try.f45 1) = impl_most.T1 := by kernel_rfl
theorem impl_most.bits1 : waitsOk impl_most.T1.2 impl_most.B1 = true := by kernel_rfl
set_option maxHeartbeats 8000000 in
set_option maxRecDepth 100000 in
theorem impl_most.calls (k : Nat) (A0 : Option Addr) (c0 : Nat) (l0 : List (S40)) (a1 : Int) (a2 : Int) (A3 : Option Addr) (c3 : Nat) (l3 : List Int) (r : Int) (w : World) (hr0 : Kd.C k40 w A0 l0.length l0) (hc0 : l0.length ≤ c0) (hr3 : Kd.C (Kd.int .i64) w A3 l3.length l3) (hc3 : l3.length ≤ c3) (h : impl_most.f k l0 a1 a2 l3 = some r) :
  Calls Try.prog 45 #[.slice A0 l0.length c0, .int .i64 a1, .int .i64 a2, .slice A3 l3.length c3] w fun e w' => e = .returned (.int .i64 r) ∧ Below w.heap.size w w' := by
 have hu40 := Try.underlying40
 have HR0 := Aside0.mk hr0
 have HC0 := Aside0.mk hc0
 clear hr0 hc0
 have HR3 := Aside0.mk hr3
 have HC3 := Aside0.mk hc3
 clear hr3 hc3
 have HB := Aside0.mk (Below.refl w.heap.size w)
 have H : (if 0 ≤ (l3.length : Int) then (if (l3.length : Int) ≤ (l0.length : Int) then ((some (l0.drop ((l3.length : Int) : Int).toNat : List (S40))).bind fun y167 => ((impl_worths.f k (l0.take ((l3.length : Int) : Int).toNat) l3).bind fun t175 => ((impl_total.f k t175).bind fun t178 => (impl_most.l0 k a1 a2 l3 y167 (([t178] : List Int)) (wrap64 ((shl .i64 1 (y167.length : Int)) - 1)) 0)))) else (none)) else (none)) = some r := h
 clear h
 by_cases c5 : 0 ≤ (l3.length : Int)
 ·rw [if_pos c5] at H
  have c5b0 := eq_true c5
  have c5b1 : decide (0 ≤ (l3.length : Int)) = true := decide_eq_true c5
  clear c5
  by_cases c6 : (l3.length : Int) ≤ (l0.length : Int)
  ·rw [if_pos c6] at H
   have c6b0 := eq_true c6
   have c6b1 : decide ((l3.length : Int) ≤ (l0.length : Int)) = true := decide_eq_true c6
   clear c6
   obtain ⟨y167, hy167⟩ : ∃ y_ : List (S40), y_ = (l0.drop ((l3.length : Int) : Int).toNat) := ⟨_, rfl⟩
   replace H : ((impl_worths.f k (l0.take ((l3.length : Int) : Int).toNat) l3).bind fun t175 => ((impl_total.f k t175).bind fun t178 => (impl_most.l0 k a1 a2 l3 y167 (([t178] : List Int)) (wrap64 ((shl .i64 1 (y167.length : Int)) - 1)) 0))) = some r := by first | (rw [hy167]; with_reducible exact H) | (have H2_ := (Option.bind_some _ _).symm.trans H; rw [hy167]; with_reducible exact H2_) | (have H2_ := (Option.bind_some _ _).symm.trans H; with_reducible exact H2_) | with_reducible exact H | (rw [hy167]; exact H) | exact H
   have Ny167 := Aside0.mk hy167
   clear hy167
   have c7b0 := eq_true (of_decide_eq_true (by first | (with_reducible assumption) | assumption) : 0 ≤ (l3.length : Int))
   have c8b0 := eq_true (of_decide_eq_true (by first | (with_reducible assumption) | assumption) : (l3.length : Int) ≤ (l0.length : Int))
   obtain ⟨y171, hy171⟩ : ∃ y_ : List (S40), y_ = (l0.take ((l3.length : Int) : Int).toNat) := ⟨_, rfl⟩
   replace H : ((impl_worths.f k y171 l3).bind fun t175 => ((impl_total.f k t175).bind fun t178 => (impl_most.l0 k a1 a2 l3 y167 (([t178] : List Int)) (wrap64 ((shl .i64 1 (y167.length : Int)) - 1)) 0))) = some r := by first | (rw [hy171]; with_reducible exact H) | (have H2_ := (Option.bind_some _ _).symm.trans H; rw [hy171]; with_reducible exact H2_) | (have H2_ := (Option.bind_some _ _).symm.trans H; with_reducible exact H2_) | with_reducible exact H | (rw [hy171]; exact H) | exact H
   have Ny171 := Aside0.mk hy171
   clear hy171
   replace H := Option.bind_eq_some_iff.mp H
   obtain ⟨t175, A90, H⟩ := H
   replace H : ((impl_total.f k t175).bind fun t178 => (impl_most.l0 k a1 a2 l3 y167 (([t178] : List Int)) (wrap64 ((shl .i64 1 (y167.length : Int)) - 1)) 0)) = some r := H
   have A9 := Aside0.mk A90
   clear A90
   replace H := Option.bind_eq_some_iff.mp H
   obtain ⟨t178, A100, H⟩ := H
   replace H : (impl_most.l0 k a1 a2 l3 y167 (([t178] : List Int)) (wrap64 ((shl .i64 1 (y167.length : Int)) - 1)) 0) = some r := H
   have A10 := Aside0.mk A100
   clear A100
   obtain ⟨y179, hy179⟩ : ∃ y_ : List Int, y_ = (([t178] : List Int)) := ⟨_, rfl⟩
   replace H : (impl_most.l0 k a1 a2 l3 y167 y179 (wrap64 ((shl .i64 1 (y167.length : Int)) - 1)) 0) = some r := by first | (rw [hy179]; with_reducible exact H) | (have H2_ := (Option.bind_some _ _).symm.trans H; rw [hy179]; with_reducible exact H2_) | (have H2_ := (Option.bind_some _ _).symm.trans H; with_reducible exact H2_) | with_reducible exact H | (rw [hy179]; exact H) | exact H
   have Ny179 := Aside0.mk hy179
   clear hy179
   obtain ⟨ji11, hji11⟩ : ∃ j_ : Int, (shl .i64 1 (y167.length : Int)) = j_ := ⟨_, rfl⟩
   replace H : (impl_most.l0 k a1 a2 l3 y167 y179 (wrap64 ((ji11) - 1)) 0) = some r := by first | (rw [hji11] at H; exact H) | (simp only [hji11] at H ⊢; exact H)
   (try rw [hji11] at A9)
   (try rw [hji11] at A10)
   have hji11_ : (IntKind.i64.wrap (1 * 2 ^ min (y167.length : Int).toNat 64)) = ji11 := hji11
   have hji11z : (y167.length : Int) ≤ 64 → (IntKind.i64.wrap (1 * 2 ^ (y167.length : Int).toNat)) = ji11 := shl_small hji11
   have hji11p : (IntKind.i64.wrap (1 * 2 ^ min y167.length 64)) = ji11 := hji11_
   have hji11q : (y167.length : Int) ≤ 64 → (IntKind.i64.wrap (1 * 2 ^ y167.length)) = ji11 := hji11z
   have hji11r : (IntKind.i64.wrap (2 ^ min y167.length 64)) = ji11 := by have h_ := hji11p; rw [Int.one_mul] at h_; exact h_
   have hji11s : (y167.length : Int) ≤ 64 → (IntKind.i64.wrap (2 ^ y167.length)) = ji11 := fun hle_ => by have h_ := hji11q hle_; rw [Int.one_mul] at h_; exact h_
   have hji11u : (IntKind.i64.wrap (2 ^ min (y167.length : Int).toNat 64)) = ji11 := by have h_ := hji11_; rw [Int.one_mul] at h_; exact h_
   have hji11v : (y167.length : Int) ≤ 64 → (IntKind.i64.wrap (2 ^ (y167.length : Int).toNat)) = ji11 := fun hle_ => by have h_ := hji11z hle_; rw [Int.one_mul] at h_; exact h_
   have hji11y : (wrap64 (1 * 2 ^ min (y167.length : Int).toNat 64)) = ji11 := (i64_w _).symm.trans hji11_
   have hji11x : (y167.length : Int) ≤ 64 → (wrap64 (1 * 2 ^ (y167.length : Int).toNat)) = ji11 := fun h_ => (i64_w _).symm.trans (hji11z h_)
   have H' := Aside0.mk H
   clear H
   go_enter Try.func45, Try.ntmps45
   try go_wp2
   have n0_ := Aside0.mk (below_drew1 HB.out)
   clear HB
   have HB := n0_
   clear n0_
   have q13 : ((l3.length : Int) : Int) ≤ ((l0.length : Int) : Int) := of_decide_eq_true (by first | (with_reducible assumption) | assumption)
   obtain ⟨i013, hi013, _, hsz13, _⟩ := info_parts info40
   have hroom13 : l0.length ≤ c0 := HC0.out
   have hC13 : Kd.C k40 _ A0 l0.length l0 := HR0.out
   have q013 : (0 : Int) ≤ ((l3.length : Int) : Int) := of_decide_eq_true (by first | (with_reducible assumption) | assumption)
   have hcut13 := cut_from (P := Try.prog) 24 40 .i64 Try.underlying24 hi013 4 hsz13 A0 l0.length c0 (l3.length : Int) q013 q13
   have hr13 := Kd.C_drop (m := ((l3.length : Int) : Int).toNat) (c := c0) hC13 (by omega) hroom13
   obtain ⟨A13, hA13⟩ : ∃ A1, A1 = (if c0 = ((l3.length : Int) : Int).toNat then A0 else (A0 : Option Addr).map (·.add (((l3.length : Int) : Int).toNat * 4))) := ⟨_, rfl⟩
   obtain ⟨c13, hc13⟩ : ∃ c1, c1 = c0 - ((l3.length : Int) : Int).toNat := ⟨_, rfl⟩
   have hy13 : y167.length = l0.length - ((l3.length : Int) : Int).toNat := (by rw [Ny167.out, List.length_drop] <;> omega)
   rw [show (l0).drop ((l3.length : Int) : Int).toNat = y167 from Ny167.out.symm] at hr13
   replace hr13 : Kd.C k40 _ A13 y167.length y167 := (by rw [hA13]; exact hr13)
   rw [← hy13, ← hA13, ← hc13] at hcut13
   have HR170 := Aside0.mk hr13
   have HC170 := Aside0.mk (show y167.length ≤ c13 from by rw [hy13, hc13]; exact Nat.sub_le_sub_right hroom13 _)
   clear hr13 hC13 hroom13 hi013 hsz13 hc13
   have KY13 := Aside0.mk hy13
   have KA13 := Aside0.mk hA13
   clear hy13 hA13
   replace q13 := eq_true q13
   have q14 : ((l3.length : Int) : Int) ≤ ((l0.length : Int) : Int) := of_decide_eq_true (by first | (with_reducible assumption) | assumption)
   obtain ⟨i014, hi014, _, hsz14, _⟩ := info_parts info40
   have hroom14 : l0.length ≤ c0 := HC0.out
   have hC14 : Kd.C k40 _ A0 l0.length l0 := HR0.out
   have hcut14 := cut_to (P := Try.prog) 24 40 .i64 Try.underlying24 hi014 A0 l0.length c0 (l3.length : Int) (of_decide_eq_true (by first | (with_reducible assumption) | assumption)) q14 hroom14
   have hr14 := Kd.C_take (m := ((l3.length : Int) : Int).toNat) hC14 (by omega)
   have hy14 : y171.length = ((l3.length : Int) : Int).toNat := (by rw [Ny171.out, List.length_take]; omega)
   rw [← Ny171.out] at hr14
   rw [← hy14] at hcut14
   have HR174 := Aside0.mk hr14
   have HC174 := Aside0.mk (show y171.length ≤ c0 from by omega)
   clear hr14 hC14 hroom14 hi014 hsz14
   have KY14 := Aside0.mk hy14
   clear hy14
   replace q14 := eq_true q14
   refine start_ (n := 14) (S := fun w' => True) (ds := []) #[false, false, false, false, false, false, false, false, false, false, false, false, false, false] (by kernel_rfl) rfl rfl trivial (fun hHeld => ?_); refine with_tabW impl_most.tab1 impl_most.bits1 (fun HT_ HW_ => ?_)
   generalize w.drew = w12 at HB HR170 HR174 hHeld ⊢
   refine pure_ (i := 0) (N := some 22) (v := ?_) (a' := ?_) #[true, false, false, false, false, false, false, false, false, false, false, false, false, false] rfl rfl (any_of HT_.out (by kernel_rfl)) (fun _ _ _ h => h) (Or.inl ⟨by rfl, ?_⟩) ?_ ?_
   rotate_left
   ·intro w'
    go_simp
    with_reducible rfl
   rotate_left
   ·simp only [Act.put, List.setIfInBounds_toArray, List.set_cons_zero, List.set_cons_succ, i64_w, i32_w]
    rfl
   refine pure_ (i := 1) (N := some 23) (v := ?_) (a' := ?_) #[true, true, false, false, false, false, false, false, false, false, false, false, false, false] rfl rfl (any_of HT_.out (by kernel_rfl)) (fun _ _ _ h => h) (Or.inl ⟨by rfl, ?_⟩) ?_ ?_
   rotate_left
   ·intro w'
    go_simp
    with_reducible rfl
   rotate_left
   ·simp only [Act.put, List.setIfInBounds_toArray, List.set_cons_zero, List.set_cons_succ, i64_w, i32_w]
    rfl
   refine pure_ (i := 2) (N := some 24) (v := ?_) (a' := ?_) #[true, true, true, false, false, false, false, false, false, false, false, false, false, false] rfl rfl (any_of HT_.out (by kernel_rfl)) (fun _ _ _ h => h) (Or.inl ⟨by rfl, ?_⟩) ?_ ?_
   rotate_left
   ·intro w'
    go_simp
    with_reducible rfl
   rotate_left
   ·simp only [Act.put, List.setIfInBounds_toArray, List.set_cons_zero, List.set_cons_succ, i64_w, i32_w]
    rfl
   refine pure_ (i := 3) (N := some 25) (v := ?_) (a' := ?_) #[true, true, true, true, false, false, false, false, false, false, false, false, false, false] rfl rfl (any_of HT_.out (by kernel_rfl)) (fun _ _ _ h => h) (Or.inl ⟨by rfl, ?_⟩) ?_ ?_
   rotate_left
   ·intro w'
    go_simp
    with_reducible rfl
   rotate_left
   ·simp only [Act.put, List.setIfInBounds_toArray, List.set_cons_zero, List.set_cons_succ, i64_w, i32_w]
    rfl
   refine pure_ (i := 4) (N := some 26) (v := ?_) (a' := ?_) #[true, true, true, true, true, false, false, false, false, false, false, false, false, false] rfl rfl (any_of HT_.out (by kernel_rfl)) (fun _ _ _ h => h) (Or.inl ⟨by rfl, ?_⟩) ?_ ?_
   rotate_left
   ·intro w'
    go_simp
    with_reducible rfl
   rotate_left
   ·simp only [Act.put, List.setIfInBounds_toArray, List.set_cons_zero, List.set_cons_succ, i64_w, i32_w]
    rfl
   refine pure_ (i := 5) (N := some 27) (v := ?_) (a' := ?_) #[true, true, true, true, true, true, false, false, false, false, false, false, false, false] rfl rfl (any_of HT_.out (by kernel_rfl)) (fun _ _ _ h => h) (Or.inl ⟨by rfl, ?_⟩) ?_ ?_
   rotate_left
   ·intro w'
    go_simp
    with_reducible rfl
   rotate_left
   ·simp only [Act.put, List.setIfInBounds_toArray, List.set_cons_zero, List.set_cons_succ, i64_w, i32_w]
    rfl
   refine pure_ (i := 6) (N := some 28) (v := ?_) (a' := ?_) #[true, true, true, true, true, true, true, false, false, false, false, false, false, false] rfl rfl (any_of HT_.out (by kernel_rfl)) (fun _ _ _ h => h) (Or.inl ⟨by rfl, ?_⟩) ?_ ?_
   rotate_left
   ·intro w'
    go_simp
    with_reducible rfl
   rotate_left
   ·simp only [Act.put, List.setIfInBounds_toArray, List.set_cons_zero, List.set_cons_succ, i64_w, i32_w]
    rfl
   refine pure_ (i := 7) (N := some 29) (v := ?_) (a' := ?_) #[true, true, true, true, true, true, true, true, false, false, false, false, false, false] rfl rfl (any_of HT_.out (by kernel_rfl)) (fun _ _ _ h => h) (Or.inl ⟨by rfl, ?_⟩) ?_ ?_
   rotate_left
   ·intro w'
    go_simp
    with_reducible rfl
   rotate_left
   ·simp only [Act.put, List.setIfInBounds_toArray, List.set_cons_zero, List.set_cons_succ, i64_w, i32_w]
    rfl
   refine pure_ (i := 8) (N := some 30) (v := ?_) (a' := ?_) #[true, true, true, true, true, true, true, true, true, false, false, false, false, false] rfl rfl (any_of HT_.out (by kernel_rfl)) (fun _ _ _ h => h) (Or.inl ⟨by rfl, ?_⟩) ?_ ?_
   rotate_left
   ·intro w'
    go_simp
    with_reducible rfl
   rotate_left
   ·simp only [Act.put, List.setIfInBounds_toArray, List.set_cons_zero, List.set_cons_succ, i64_w, i32_w]
    rfl
   refine one_ (i := 9) (N := some 31) #[true, true, true, true, true, true, true, true, true, true, false, false, false, false] rfl rfl (one_of HT_.out (by kernel_rfl)) (by decide) (fun K hK => ?_)
   refine goes_ Try.func34 (by kernel_rfl) rfl #[.slice A0 y171.length c0, .slice A3 l3.length c3] (by rfl) rfl rfl (by (try simp only [List.map_toArray, List.map_cons, List.map_nil]); first | done | rfl | (simp only [List.length_drop, List.length_take]; rfl)) ?_
   with_reducible refine (impl_worths.calls k _ _ y171 _ _ l3 t175 _ ?side1 ?side2 ?side3 ?side4 A9.out).mono ?_
   (case side1 => repeat (first | exact (Kd.C_below HR174.out HB.out) | (with_reducible refine Kd.C_alloc ?_ _) | (with_reducible refine Kd.C_drewN ?_ _) | (with_reducible refine Kd.C_drew ?_)))
   (case side2 => exact HC174.out)
   (case side3 => repeat (first | exact (Kd.C_below HR3.out HB.out) | (with_reducible refine Kd.C_alloc ?_ _) | (with_reducible refine Kd.C_drewN ?_ _) | (with_reducible refine Kd.C_drew ?_)))
   (case side4 => exact HC3.out)
   rintro e w15 ⟨v176, rfl, ho0, hb⟩
   refine ⟨_, rfl, ?_⟩
   have n0_ := Aside0.mk (Kd.R_lower ho0 (below_size (by repeat (first | (with_reducible first | exact HB.out | apply below_alloc | apply pw_below_drewN | apply below_drew1) | exact HB.out))))
   have n1_ := Aside0.mk (below_step (by repeat (first | (with_reducible first | exact HB.out | apply below_alloc | apply pw_below_drewN | apply below_drew1) | exact HB.out)) hb)
   clear HB
   have HO177 := n0_
   have HB := n1_
   clear n0_ n1_
   (try clear hb)
   (try clear hb2)
   (try clear hk)
   (try clear hi)
   (try clear ho0)
   obtain ⟨Ao16, co16, eo16⟩ := Kd.R_slice HO177.out
   (first | subst eo16 | (injection eo16 with f1_ f2_ f3_; have f4_ := f1_.symm; have f5_ := f3_.symm; clear f1_ f2_ f3_; subst f4_; subst f5_))
   refine hK.out _ _ trivial (fun hHeld => ?_)
   clear hK K
   refine norm_ (a' := ?_) ?_ ?_
   rotate_left
   ·show Act.put _ (some 31) _ = _
    simp only [Act.put, List.setIfInBounds_toArray, List.set_cons_zero, List.set_cons_succ, i64_w, i32_w]
    rfl
   refine one_ (i := 10) (N := some 32) #[true, true, true, true, true, true, true, true, true, true, true, false, false, false] rfl rfl (one_of HT_.out (by kernel_rfl)) (by decide) (fun K hK => ?_)
   refine goes_ Try.func33 (by kernel_rfl) rfl #[.slice Ao16 t175.length co16] (by rfl) rfl rfl (by (try simp only [List.map_toArray, List.map_cons, List.map_nil]); first | done | rfl | (simp only [List.length_drop, List.length_take]; rfl)) ?_
   with_reducible refine (impl_total.calls k _ _ t175 t178 _ ?side1 ?side2 A10.out).mono ?_
   (case side1 => repeat (first | exact (Kd.R_reads' HO177.out).2.2 | (with_reducible refine Kd.C_alloc ?_ _) | (with_reducible refine Kd.C_drewN ?_ _) | (with_reducible refine Kd.C_drew ?_)))
   (case side2 => exact (Kd.R_reads' HO177.out).2.1)
   rintro e w' ⟨rfl, ⟨nd, rfl⟩⟩
   refine ⟨_, rfl, ?_⟩
   refine hK.out _ _ trivial (fun hHeld => ?_)
   clear hK K
   refine norm_ (a' := ?_) ?_ ?_
   rotate_left
   ·show Act.put _ (some 32) _ = _
    simp only [Act.put, List.setIfInBounds_toArray, List.set_cons_zero, List.set_cons_succ, i64_w, i32_w]
    rfl
   refine pure_ (i := 12) (N := some 9) (v := ?_) (a' := ?_) #[true, true, true, true, true, true, true, true, true, true, true, false, true, false] rfl rfl (any_of HT_.out (by kernel_rfl)) (fun _ _ _ h => h) (Or.inl ⟨by rfl, ?_⟩) ?_ ?_
   rotate_left
   ·intro w'
    go_simp
    with_reducible rfl
   rotate_left
   ·simp only [Act.put, List.setIfInBounds_toArray, List.set_cons_zero, List.set_cons_succ, i64_w, i32_w]
    rfl
   refine one_ (i := 11) (N := some 33) #[true, true, true, true, true, true, true, true, true, true, true, true, true, false] rfl rfl (one_of HT_.out (by kernel_rfl)) (by decide) (fun K hK => ?_)
   refine Kd.R_lit_step (Kd.int .i64) _ 2 ?hg (N := 33) ?hd (xs := ([t178] : List Int)) (inner := [.int .i64 t178]) (ok := fun _ => True) (okp := fun _ => True) ?hr ?hp (fun _ hk => hk) trivial (Below.refl _ _) (Nat.le_refl _) (by simp) ?_; (case hd => rfl); (case hg => rfl); (case hr => first | (go_simp; done) | (go_simp; rfl)); (case hp => exact (Reps.one (show Kd.M (Kd.int .i64) _ _ _ t178 [.int .i64 t178] from rfl) (Reps.none _ _)))
   intro v180 w17 ho18 hb hg_ hnew_
   clear hg_ hnew_
   (first | rw [← Ny179.out] at ho18 | (simp only [Int.reduceToNat] at ho18; rw [← Ny179.out] at ho18))
   have n0_ := Aside0.mk (Kd.R_elder' (by (with_reducible repeat (first | apply Kd.R_alloc | apply Kd.R_drewN | apply Kd.R_drew)); exact HO177.out) (Kd.R_base ho18) hb)
   have n1_ := Aside0.mk (Kd.R_lower (Kd.R_new' ho18 (Kd.R_lt (by (with_reducible repeat (first | apply Kd.R_alloc | apply Kd.R_drewN | apply Kd.R_drew)); exact HO177.out))) (below_size (by repeat (first | (with_reducible first | exact HB.out | apply below_alloc | apply pw_below_drewN | apply below_drew1) | exact HB.out))))
   have n2_ := Aside0.mk (below_step (by repeat (first | (with_reducible first | exact HB.out | apply below_alloc | apply pw_below_drewN | apply below_drew1) | exact HB.out)) hb)
   clear HO177
   clear HB
   have HO177 := n0_
   have HO181 := n1_
   have HB := n2_
   clear n0_ n1_ n2_
   clear hb ho18
   refine hK.out _ _ trivial (fun hHeld => ?_)
   clear hK K
   refine norm_ (a' := ?_) ?_ ?_
   rotate_left
   ·show Act.put _ (some 33) _ = _
    simp only [Act.put, List.setIfInBounds_toArray, List.set_cons_zero, List.set_cons_succ, i64_w, i32_w]
    rfl
   refine pure_ (i := 13) (N := some 10) (v := ?_) (a' := ?_) #[true, true, true, true, true, true, true, true, true, true, true, true, true, true] rfl rfl (any_of HT_.out (by kernel_rfl)) (fun _ _ _ h => h) (Or.inl ⟨by rfl, ?_⟩) ?_ ?_
   rotate_left
   ·intro w'
    go_simp
    with_reducible rfl
   rotate_left
   ·simp only [Act.put, List.setIfInBounds_toArray, List.set_cons_zero, List.set_cons_succ, i64_w, i32_w]
    rfl
   refine done_ (done_of HT_.out (by kernel_rfl)) ?_
   try go_wp2
   go_loopg [10, 38] k (fun kq v10 v38 w' => ∃ (x10_1 : List Int) (x38_1 : Int), v38 = .int .i64 x38_1 ∧ Aside0 (impl_most.l0 kq a1 a2 l3 y167 x10_1 (wrap64 ((ji11) - 1)) x38_1 = some r) ∧ Aside0 (kq ≤ k) ∧ Aside0 (Kd.R (Kd.int .i64) 2 w' w.heap.size (fun _ => True) v10 x10_1) ∧ Aside0 (Below w.heap.size w w'))
   case atStart => exact ⟨(y179), (0), (by first | rfl | (simp; done) | (simp [*]; done)), H', ⟨Nat.le_refl _⟩, ⟨by (with_reducible repeat (first | apply Kd.R_alloc | apply Kd.R_drewN | apply Kd.R_drew)); exact Kd.R_mono HO181.out (fun _ hk => trivial)⟩, ⟨by repeat (first | (with_reducible first | exact HB.out | apply below_alloc | apply pw_below_drewN | apply below_drew1) | exact HB.out)⟩⟩
   case round =>
    clear H'
    try clear c1
    try clear q1
    try clear p2
    try clear c3
    try clear c4
    try clear c5
    try clear c5b0
    try clear c5b1
    try clear c6
    try clear c6b0
    try clear c6b1
    try clear p6
    try clear c7
    try clear c7b0
    try clear c8
    try clear c8b0
    try clear c13
    try clear q13
    try clear q14
    try clear q013
    try clear q13
    try clear q14
    obtain ⟨x10_1, x38_1, rfl, HA, HK1, HO_10, HB⟩ := hrel
    cases gk with
    | zero => exact absurd HA.out (by simp [impl_most.l0])
    | succ k1 =>
     have H := HA.out
     clear HA
     simp only [impl_most.l0] at H
     by_cases c19 : x38_1 < (wrap64 ((ji11) - 1))
     ·rw [if_pos c19] at H
      have c19b0 : decide (x38_1 < (wrap64 ((ji11) - 1))) = true := decide_eq_true c19
      clear c19
      by_cases c20 : x10_1.length < 17592186044416
      ·rw [if_pos c20] at H
       have LMc20 := Aside0.mk c20
       clear c20
       obtain ⟨y182, hy182⟩ : ∃ y_ : List Int, y_ = (x10_1 ++ [(-1)]) := ⟨_, rfl⟩
       replace H : (impl_most.l0 k1 a1 a2 l3 y167 y182 (wrap64 ((ji11) - 1)) (wrap64 (x38_1 + 1))) = some r := by first | (rw [hy182]; with_reducible exact H) | (have H2_ := (Option.bind_some _ _).symm.trans H; rw [hy182]; with_reducible exact H2_) | (have H2_ := (Option.bind_some _ _).symm.trans H; with_reducible exact H2_) | with_reducible exact H | (rw [hy182]; exact H) | exact H
       have Ny182 := Aside0.mk hy182
       clear hy182
       have H' := Aside0.mk H
       clear H
       go_wp2_with (first | ((with_reducible refine gate_builtin (b := .append) (xs := #[.tmp 40, .tmp 41]) rfl ?_); at_builtin; refine Kd.R_append (Kd.int .i64) (w0 := w) w.heap.size rfl (.tmp 40) (.tmp 41) 27 2 (.int .i64 0) 8 rfl Try.underlying27 info2 rfl (by decide) (by omega) u10 x10_1 (-1) [.int .i64 (-1)] (fun _ => True) (fun _ => False) rfl rfl ?aP (fun _ hk => hk.elim) ?aF ?aO ?aB ?aS ?aL ?_; (case aP => exact rfl); (case aB => exact (by repeat (first | (with_reducible first | exact HB.out | apply below_alloc | apply pw_below_drewN | apply below_drew1) | exact HB.out))); (case aF => exact (fun _ _ => trivial)); (case aO => exact (by (with_reducible repeat (first | apply Kd.R_alloc | apply Kd.R_drewN | apply Kd.R_drew)); exact HO_10.out)); (case aS => exact (below_size (by repeat (first | (with_reducible first | exact HB.out | apply below_alloc | apply pw_below_drewN | apply below_drew1) | exact HB.out)))); (case aL => have := LMc20.out; omega); intro v183 w21 ho hb hg hat; rw [← Ny182.out] at ho; have n0_ := Aside0.mk (hb); have n1_ := Aside0.mk (ho); clear HB; clear HO_10; have HB := n0_; have HO184 := n1_; clear n0_ n1_; clear ho hb hg hat))
       go_roundg k1
       case measure => have := HK1.out; omega
       case rel => exact ⟨(y182), (wrap64 (x38_1 + 1)), (by first | rfl | (simp; done) | (simp [*]; done)), (by first | exact H' | (rw [hji11]; exact H')), ⟨by have := HK1.out; omega⟩, ⟨by (with_reducible repeat (first | apply Kd.R_alloc | apply Kd.R_drewN | apply Kd.R_drew)); exact HO184.out⟩, ⟨by repeat (first | (with_reducible first | exact HB.out | apply below_alloc | apply pw_below_drewN | apply below_drew1) | exact HB.out)⟩⟩
      ·rw [if_neg c20] at H
       exact absurd H (by simp)
     ·rw [if_neg c19] at H
      have c19b0 : decide (x38_1 < (wrap64 ((ji11) - 1))) = false := decide_eq_false c19
      clear c19
      have H' := Aside0.mk H
      clear H
      go_wp2
      go_loopg [10, 45] k1 (fun kq v10 v45 w' => ∃ (x10_2 : List Int) (x45_2 : Int), v45 = .int .i64 x45_2 ∧ Aside0 (impl_most.l1 kq a1 l3 y167 x10_2 a2 x45_2 = some r) ∧ Aside0 (kq ≤ k1) ∧ Aside0 (Kd.R (Kd.int .i64) 2 w' w.heap.size (fun _ => True) v10 x10_2) ∧ Aside0 (Below w.heap.size w w'))
      case atStart => exact ⟨(x10_1), (0), (by first | rfl | (simp; done) | (simp [*]; done)), H', ⟨Nat.le_refl _⟩, ⟨by (with_reducible repeat (first | apply Kd.R_alloc | apply Kd.R_drewN | apply Kd.R_drew)); exact HO_10.out⟩, ⟨by repeat (first | (with_reducible first | exact HB.out | apply below_alloc | apply pw_below_drewN | apply below_drew1) | exact HB.out)⟩⟩
      case round =>
       clear H'
       try clear c1
       try clear q1
       try clear c2
       try clear p2
       try clear c3
       try clear c4
       try clear c5
       try clear c5b0
       try clear c5b1
       try clear c6
       try clear c6b0
       try clear c6b1
       try clear p6
       try clear c7
       try clear c7b0
       try clear c8
       try clear c8b0
       try clear c13
       try clear q13
       try clear q14
       try clear c19
       try clear c19b0
       try clear c20
       try clear p2
       try clear p6
       try clear q013
       try clear q1
       try clear q13
       try clear q14
       obtain ⟨x10_2, x45_2, rfl, HA, HK2, HO_10, HB⟩ := hrel
       cases gk with
       | zero => exact absurd HA.out (by simp [impl_most.l1])
       | succ k2 =>
        have H := HA.out
        clear HA
        simp only [impl_most.l1] at H
        by_cases c22 : x45_2 < a2
        ·rw [if_pos c22] at H
         have c22b0 : decide (x45_2 < a2) = true := decide_eq_true c22
         clear c22
         have H' := Aside0.mk H
         clear H
         go_wp2
         go_loopg [12, 51] k2 (fun kq v12 v51 w' => ∃ (x12_3 : Int) (x51_3 : Int), v12 = .int .i64 x12_3 ∧ v51 = .int .i64 x51_3 ∧ Aside0 (impl_most.l2 kq a1 l3 y167 x10_2 x45_2 x12_3 a2 x45_2 l3 (l3.length : Int) x51_3 = some r) ∧ Aside0 (kq ≤ k2) ∧ Aside0 (Kd.R (Kd.int .i64) 2 w' w.heap.size (fun _ => True) u10 x10_2) ∧ Aside0 (Below w.heap.size w w'))
         case atStart => exact ⟨(a1), (0), (by first | rfl | (simp; done) | (simp [*]; done)), (by first | rfl | (simp; done) | (simp [*]; done)), H', ⟨Nat.le_refl _⟩, ⟨by (with_reducible repeat (first | apply Kd.R_alloc | apply Kd.R_drewN | apply Kd.R_drew)); exact HO_10.out⟩, ⟨by repeat (first | (with_reducible first | exact HB.out | apply below_alloc | apply pw_below_drewN | apply below_drew1) | exact HB.out)⟩⟩
         case round =>
          clear H'
          try clear c1
          try clear q1
          try clear c2
          try clear p2
          try clear c3
          try clear c4
          try clear c5
          try clear c5b0
          try clear c5b1
          try clear c6
          try clear c6b0
          try clear c6b1
          try clear p6
          try clear c7
          try clear c7b0
          try clear c8
          try clear c8b0
          try clear c13
          try clear q13
          try clear q14
          try clear c19
          try clear c19b0
          try clear c20
          try clear c22
          try clear c22b0
          try clear p2
          try clear p6
          try clear q013
          try clear q1
          try clear q13
          try clear q14
          obtain ⟨x12_3, x51_3, rfl, rfl, HA, HK3, HO_10, HB⟩ := hrel
          cases gk with
          | zero => exact absurd HA.out (by simp [impl_most.l2])
          | succ k3 =>
           have H := HA.out
           clear HA
           simp only [impl_most.l2] at H
           by_cases c23 : x51_3 < (l3.length : Int)
           ·rw [if_pos c23] at H
            have c23b0 : decide (x51_3 < (l3.length : Int)) = true := decide_eq_true c23
            clear c23
            by_cases c24 : 0 ≤ x51_3
            ·rw [if_pos c24] at H
             have c24b0 : decide (0 ≤ x51_3) = true := decide_eq_true c24
             clear c24
             by_cases c25 : x51_3 < (l3.length : Int)
             ·rw [if_pos c25] at H
              have c25b0 : decide (x51_3 < (l3.length : Int)) = true := decide_eq_true c25
              clear c25
              by_cases c26 : (rd l3 x51_3) = x45_2
              ·rw [if_pos c26] at H
               have c26b0 : ((rd l3 x51_3) == x45_2) = true := beq_iff_eq.mpr c26
               have c26b1 : ((rd l3 x51_3) != x45_2) = false := bne_eq_false_iff_eq.mpr c26
               clear c26
               have H' := Aside0.mk H
               clear H
               have p186 : 0 ≤ (x51_3 : Int) := of_decide_eq_true (by first | (with_reducible assumption) | assumption)
               have q186 : x51_3 < (l3.length : Int) := of_decide_eq_true (by first | (with_reducible assumption) | assumption)
               obtain ⟨ad186, e186, hx186_0⟩ := Kd.at_int HR3.out x51_3 p186 q186
               cases e186
               replace hx186_0 := (HB.out.cell (World.block_lt_of_cell? w _ hx186_0)).trans hx186_0
               replace p186 := eq_true p186
               replace q186 := eq_true q186
               go_wp2
               go_roundg k3
               case measure => have := HK1.out; have := HK2.out; have := HK3.out; omega
               case rel => exact ⟨(wrap64 (x12_3 - 1)), (wrap64 (x51_3 + 1)), (by first | rfl | (simp; done) | (simp [*]; done)), (by first | rfl | (simp; done) | (simp [*]; done)), (by first | exact H' | (rw [hji11]; exact H')), ⟨by have := HK1.out; have := HK2.out; have := HK3.out; omega⟩, ⟨by (with_reducible repeat (first | apply Kd.R_alloc | apply Kd.R_drewN | apply Kd.R_drew)); exact HO_10.out⟩, ⟨by repeat (first | (with_reducible first | exact HB.out | apply below_alloc | apply pw_below_drewN | apply below_drew1) | exact HB.out)⟩⟩
              ·rw [if_neg c26] at H
               have c26b0 : ((rd l3 x51_3) == x45_2) = false := beq_eq_false_iff_ne.mpr c26
               have c26b1 : ((rd l3 x51_3) != x45_2) = true := bne_iff_ne.mpr c26
               have H' := Aside0.mk H
               clear H
               have p186 : 0 ≤ (x51_3 : Int) := of_decide_eq_true (by first | (with_reducible assumption) | assumption)
               have q186 : x51_3 < (l3.length : Int) := of_decide_eq_true (by first | (with_reducible assumption) | assumption)
               obtain ⟨ad186, e186, hx186_0⟩ := Kd.at_int HR3.out x51_3 p186 q186
               cases e186
               replace hx186_0 := (HB.out.cell (World.block_lt_of_cell? w _ hx186_0)).trans hx186_0
               replace p186 := eq_true p186
               replace q186 := eq_true q186
               go_wp2
               go_roundg k3
               case measure => have := HK1.out; have := HK2.out; have := HK3.out; omega
               case rel => exact ⟨(x12_3), (wrap64 (x51_3 + 1)), (by first | rfl | (simp; done) | (simp [*]; done)), (by first | rfl | (simp; done) | (simp [*]; done)), (by first | exact H' | (rw [hji11]; exact H')), ⟨by have := HK1.out; have := HK2.out; have := HK3.out; omega⟩, ⟨by (with_reducible repeat (first | apply Kd.R_alloc | apply Kd.R_drewN | apply Kd.R_drew)); exact HO_10.out⟩, ⟨by repeat (first | (with_reducible first | exact HB.out | apply below_alloc | apply pw_below_drewN | apply below_drew1) | exact HB.out)⟩⟩
             ·rw [if_neg c25] at H
              exact absurd H (by simp)
            ·rw [if_neg c24] at H
             exact absurd H (by simp)
           ·rw [if_neg c23] at H
            have c23b0 : decide (x51_3 < (l3.length : Int)) = false := decide_eq_false c23
            clear c23
            by_cases c27 : x12_3 < 0
            ·rw [if_pos c27] at H
             have c27b0 : decide (x12_3 < 0) = true := decide_eq_true c27
             clear c27
             obtain rfl := Option.some.inj H
             go_wp2
             go_ret
             exact ⟨by first | rfl | (simp [errW_none, errW_some] <;> rfl) | (simp only [← hji11]; first | rfl | (simp [errW_none, errW_some] <;> rfl)) | (simp [*, errW_none, errW_some] <;> rfl), by repeat (first | (with_reducible first | exact HB.out | apply below_alloc | apply pw_below_drewN | apply below_drew1) | exact HB.out)⟩
            ·rw [if_neg c27] at H
             have c27b0 : decide (x12_3 < 0) = false := decide_eq_false c27
             clear c27
             replace H := Option.bind_eq_some_iff.mp H
             obtain ⟨t187, A280, H⟩ := H
             replace H : (impl_most.l3 k3 a1 l3 y167 x10_2 x45_2 x12_3 t187 a2 x45_2 x10_2 (x10_2.length : Int) 0) = some r := H
             have A28 := Aside0.mk A280
             clear A280
             have H' := Aside0.mk H
             clear H
             obtain ⟨Ao29, co29, eo29⟩ := Kd.R_slice HO_10.out
             subst eo29
             go_wp2_with (first | ((with_reducible refine gate_callee (f := 48) rfl ?_); refine goesL_ (some 64) rfl rfl Try.func48 (by kernel_rfl) rfl #[.slice Ao29 x10_2.length co29] rfl (by (try simp only [List.map_toArray, List.map_cons, List.map_nil]); first | done | rfl | (simp only [List.length_drop, List.length_take]; rfl)) ?_; (with_reducible refine (slices_Clone.calls _ _ x10_2 t187 _ ?side1 ?side2 A28.out).mono ?_); (case side1 => repeat (first | exact (Kd.R_reads' HO_10.out).2.2 | (with_reducible refine Kd.C_alloc ?_ _) | (with_reducible refine Kd.C_drewN ?_ _) | (with_reducible refine Kd.C_drew ?_))); (case side2 => exact (Kd.R_reads' HO_10.out).2.1); rintro e w30 ⟨v188, rfl, ho0, hb⟩; refine ⟨_, rfl, ?_⟩; have n0_ := Aside0.mk (Kd.R_elder' (by (with_reducible repeat (first | apply Kd.R_alloc | apply Kd.R_drewN | apply Kd.R_drew)); exact HO_10.out) (Kd.R_base ho0) hb); have n1_ := Aside0.mk (Kd.R_lower (Kd.R_new' ho0 (Kd.R_lt (by (with_reducible repeat (first | apply Kd.R_alloc | apply Kd.R_drewN | apply Kd.R_drew)); exact HO_10.out))) (below_size (by repeat (first | (with_reducible first | exact HB.out | apply below_alloc | apply pw_below_drewN | apply below_drew1) | exact HB.out)))); have n2_ := Aside0.mk (below_step (by repeat (first | (with_reducible first | exact HB.out | apply below_alloc | apply pw_below_drewN | apply below_drew1) | exact HB.out)) hb); clear HO_10; clear HB; have HO_10 := n0_; have HO189 := n1_; have HB := n2_; clear n0_ n1_ n2_; (try clear hb); (try clear hb2); (try clear hk); (try clear hi); (try clear ho0)))
             go_loopg [67] k3 (fun kq v67 w' => ∃ (x15_4 : List Int) (x67_4 : Int), v67 = .int .i64 x67_4 ∧ Aside0 (impl_most.l3 kq a1 l3 y167 x10_2 x45_2 x12_3 x15_4 a2 x45_2 x10_2 (x10_2.length : Int) x67_4 = some r) ∧ Aside0 (kq ≤ k3) ∧ Aside0 (Kd.R (Kd.int .i64) 2 w' w.heap.size (fun k_ => some k_ ≠ (v188 : Value).ownBlock) (.slice Ao29 x10_2.length co29) x10_2) ∧ Aside0 (Kd.R (Kd.int .i64) 2 w' w.heap.size (fun k_ => some k_ ≠ ((.slice Ao29 x10_2.length co29) : Value).ownBlock ∧ some k_ ≠ ((.slice Ao29 x10_2.length co29) : Value).ownBlock) v188 x15_4) ∧ Aside0 (Kd.R (Kd.int .i64) 2 w' w.heap.size (fun k_ => some k_ ≠ (v188 : Value).ownBlock) (.slice Ao29 x10_2.length co29) x10_2) ∧ Aside0 (Below w.heap.size w w'))
             case atStart => exact ⟨(t187), (0), (by first | rfl | (simp; done) | (simp [*]; done)), H', ⟨Nat.le_refl _⟩, ⟨by (with_reducible repeat (first | apply Kd.R_alloc | apply Kd.R_drewN | apply Kd.R_drew)); exact Kd.R_mono HO_10.out (fun _ hk => hk.2)⟩, ⟨by (with_reducible repeat (first | apply Kd.R_alloc | apply Kd.R_drewN | apply Kd.R_drew)); exact Kd.R_mono HO189.out (fun _ hk => ⟨hk.2, hk.2⟩)⟩, ⟨by (with_reducible repeat (first | apply Kd.R_alloc | apply Kd.R_drewN | apply Kd.R_drew)); exact Kd.R_mono HO_10.out (fun _ hk => hk.2)⟩, ⟨by repeat (first | (with_reducible first | exact HB.out | apply below_alloc | apply pw_below_drewN | apply below_drew1) | exact HB.out)⟩⟩
             case round =>
              clear H'
              try clear c1
              try clear p1
              try clear q1
              try clear hx1
              try clear c2
              try clear p2
              try clear c3
              try clear c4
              try clear c5
              try clear c5b0
              try clear c5b1
              try clear c6
              try clear c6b0
              try clear c6b1
              try clear p6
              try clear c7
              try clear c7b0
              try clear c8
              try clear c8b0
              try clear c13
              try clear q13
              try clear q14
              try clear p18
              try clear q18
              try clear hx18
              try clear c19
              try clear c19b0
              try clear c20
              try clear c22
              try clear c22b0
              try clear c23
              try clear c23b0
              try clear c24
              try clear c24b0
              try clear c25
              try clear c25b0
              try clear c26
              try clear c26b0
              try clear c26b1
              try clear c27
              try clear c27b0
              try clear hx186_0
              try clear p186
              try clear p2
              try clear p6
              try clear q013
              try clear q1
              try clear q13
              try clear q14
              try clear q186
              obtain ⟨x15_4, x67_4, rfl, HA, HK4, HO_10, HO_15, HO_65, HB⟩ := hrel
              cases gk with
              | zero => exact absurd HA.out (by simp [impl_most.l3])
              | succ k4 =>
               have H := HA.out
               clear HA
               simp only [impl_most.l3] at H
               by_cases c31 : x67_4 < (x10_2.length : Int)
               ·rw [if_pos c31] at H
                have c31b0 : decide (x67_4 < (x10_2.length : Int)) = true := decide_eq_true c31
                clear c31
                by_cases c32 : 0 ≤ x67_4
                ·rw [if_pos c32] at H
                 have c32b0 : decide (0 ≤ x67_4) = true := decide_eq_true c32
                 clear c32
                 by_cases c33 : x67_4 < (x10_2.length : Int)
                 ·rw [if_pos c33] at H
                  have c33b0 : decide (x67_4 < (x10_2.length : Int)) = true := decide_eq_true c33
                  clear c33
                  by_cases c34 : (rd x10_2 x67_4) < 0
                  ·rw [if_pos c34] at H
                   have c34b0 : decide ((rd x10_2 x67_4) < 0) = true := decide_eq_true c34
                   clear c34
                   have H' := Aside0.mk H
                   clear H
                   have p190 : 0 ≤ (x67_4 : Int) := of_decide_eq_true (by first | (with_reducible assumption) | assumption)
                   have q190 : x67_4 < (x10_2.length : Int) := of_decide_eq_true (by first | (with_reducible assumption) | assumption)
                   obtain ⟨ad190, e190, hx190_0⟩ := Kd.at_int (Kd.R_reads' HO_65.out).2.2 x67_4 p190 q190
                   cases e190
                   replace p190 := eq_true p190
                   replace q190 := eq_true q190
                   go_wp2
                   go_roundg k4
                   case measure => have := HK1.out; have := HK2.out; have := HK3.out; have := HK4.out; omega
                   case rel => exact ⟨(x15_4), (wrap64 (x67_4 + 1)), (by first | rfl | (simp; done) | (simp [*]; done)), (by first | exact H' | (rw [hji11]; exact H')), ⟨by have := HK1.out; have := HK2.out; have := HK3.out; have := HK4.out; omega⟩, ⟨by (with_reducible repeat (first | apply Kd.R_alloc | apply Kd.R_drewN | apply Kd.R_drew)); exact HO_10.out⟩, ⟨by (with_reducible repeat (first | apply Kd.R_alloc | apply Kd.R_drewN | apply Kd.R_drew)); exact HO_15.out⟩, ⟨by (with_reducible repeat (first | apply Kd.R_alloc | apply Kd.R_drewN | apply Kd.R_drew)); exact HO_65.out⟩, ⟨by repeat (first | (with_reducible first | exact HB.out | apply below_alloc | apply pw_below_drewN | apply below_drew1) | exact HB.out)⟩⟩
                  ·rw [if_neg c34] at H
                   have c34b0 : decide ((rd x10_2 x67_4) < 0) = false := decide_eq_false c34
                   clear c34
                   have H' := Aside0.mk H
                   clear H
                   have p190 : 0 ≤ (x67_4 : Int) := of_decide_eq_true (by first | (with_reducible assumption) | assumption)
                   have q190 : x67_4 < (x10_2.length : Int) := of_decide_eq_true (by first | (with_reducible assumption) | assumption)
                   obtain ⟨ad190, e190, hx190_0⟩ := Kd.at_int (Kd.R_reads' HO_65.out).2.2 x67_4 p190 q190
                   cases e190
                   replace p190 := eq_true p190
                   replace q190 := eq_true q190
                   go_wp2
                   go_loopg [76] k4 (fun kq v76 w' => ∃ (x15_5 : List Int) (x76_5 : Int), v76 = .int .i64 x76_5 ∧ Aside0 (impl_most.l4 kq a1 l3 y167 x10_2 x45_2 x12_3 x15_5 x67_4 (rd x10_2 x67_4) a2 x45_2 x10_2 (x10_2.length : Int) x67_4 (x10_2.length : Int) x76_5 = some r) ∧ Aside0 (kq ≤ k4) ∧ Aside0 (Kd.R (Kd.int .i64) 2 w' w.heap.size (fun k_ => some k_ ≠ (v188 : Value).ownBlock) (.slice (some ad190) x10_2.length co29) x10_2) ∧ Aside0 (Kd.R (Kd.int .i64) 2 w' w.heap.size (fun k_ => some k_ ≠ ((.slice (some ad190) x10_2.length co29) : Value).ownBlock ∧ some k_ ≠ ((.slice (some ad190) x10_2.length co29) : Value).ownBlock) v188 x15_5) ∧ Aside0 (Kd.R (Kd.int .i64) 2 w' w.heap.size (fun k_ => some k_ ≠ (v188 : Value).ownBlock) (.slice (some ad190) x10_2.length co29) x10_2) ∧ Aside0 (Below w.heap.size w w'))
                   case atStart => exact ⟨(x15_4), (0), (by first | rfl | (simp; done) | (simp [*]; done)), H', ⟨Nat.le_refl _⟩, ⟨by (with_reducible repeat (first | apply Kd.R_alloc | apply Kd.R_drewN | apply Kd.R_drew)); exact HO_10.out⟩, ⟨by (with_reducible repeat (first | apply Kd.R_alloc | apply Kd.R_drewN | apply Kd.R_drew)); exact HO_15.out⟩, ⟨by (with_reducible repeat (first | apply Kd.R_alloc | apply Kd.R_drewN | apply Kd.R_drew)); exact HO_65.out⟩, ⟨by repeat (first | (with_reducible first | exact HB.out | apply below_alloc | apply pw_below_drewN | apply below_drew1) | exact HB.out)⟩⟩
                   case round =>
                    clear H'
                    try clear c1
                    try clear p1
                    try clear q1
                    try clear hx1
                    try clear c2
                    try clear p2
                    try clear c3
                    try clear c4
                    try clear c5
                    try clear c5b0
                    try clear c5b1
                    try clear c6
                    try clear c6b0
                    try clear c6b1
                    try clear p6
                    try clear c7
                    try clear c7b0
                    try clear c8
                    try clear c8b0
                    try clear c13
                    try clear q13
                    try clear q14
                    try clear p18
                    try clear q18
                    try clear hx18
                    try clear c19
                    try clear c19b0
                    try clear p19
                    try clear q19
                    try clear hx19
                    try clear c20
                    try clear c22
                    try clear c22b0
                    try clear c23
                    try clear c23b0
                    try clear c24
                    try clear c24b0
                    try clear c25
                    try clear c25b0
                    try clear c26
                    try clear c26b0
                    try clear c26b1
                    try clear c27
                    try clear c27b0
                    try clear c31
                    try clear c31b0
                    try clear c32
                    try clear c32b0
                    try clear c33
                    try clear c33b0
                    try clear c34
                    try clear c34b0
                    try clear hx186_0
                    try clear hx190_0
                    try clear p1
                    try clear p18
                    try clear p186
                    try clear p190
                    try clear p2
                    try clear p6
                    try clear q013
                    try clear q1
                    try clear q13
                    try clear q14
                    try clear q18
                    try clear q186
                    try clear q190
                    obtain ⟨x15_5, x76_5, rfl, HA, HK5, HO_10, HO_15, HO_65, HB⟩ := hrel
                    cases gk with
                    | zero => exact absurd HA.out (by simp [impl_most.l4])
                    | succ k5 =>
                     have H := HA.out
                     clear HA
                     simp only [impl_most.l4] at H
                     by_cases c35 : x76_5 < (x10_2.length : Int)
                     ·rw [if_pos c35] at H
                      have c35b0 : decide (x76_5 < (x10_2.length : Int)) = true := decide_eq_true c35
                      clear c35
                      have HC36 := Aside0.mk H
                      clear H
                      go_upto_region 26 with (fail)
                      go_cut [89] (fun v89 wc => ∃ (kq : Nat) (x89_35 : Bool), v89 = .bool x89_35 ∧ Aside0 (impl_most.j5 kq a1 l3 y167 x10_2 x45_2 x12_3 x15_5 x67_4 (rd x10_2 x67_4) x76_5 a2 x45_2 x10_2 (x10_2.length : Int) x67_4 (x10_2.length : Int) x76_5 x89_35 = some r) ∧ Aside0 (kq ≤ k5) ∧ Aside0 (Kd.R (Kd.int .i64) 2 wc w.heap.size (fun k_ => some k_ ≠ (v188 : Value).ownBlock) (.slice (some ad190) x10_2.length co29) x10_2) ∧ Aside0 (Kd.R (Kd.int .i64) 2 wc w.heap.size (fun k_ => some k_ ≠ ((.slice (some ad190) x10_2.length co29) : Value).ownBlock ∧ some k_ ≠ ((.slice (some ad190) x10_2.length co29) : Value).ownBlock) v188 x15_5) ∧ Aside0 (Kd.R (Kd.int .i64) 2 wc w.heap.size (fun k_ => some k_ ≠ (v188 : Value).ownBlock) (.slice (some ad190) x10_2.length co29) x10_2) ∧ Aside0 (Below w.heap.size w wc))
                      case first =>
                       have H := HC36.out
                       clear HC36
                       by_cases c37 : (Go.bits .and .i64 x67_4 x76_5) = 0
                       ·rw [if_pos c37] at H
                        have c37b0 : ((Go.bits .and .i64 x67_4 x76_5) == 0) = true := beq_iff_eq.mpr c37
                        have c37b1 : ((Go.bits .and .i64 x67_4 x76_5) != 0) = false := bne_eq_false_iff_eq.mpr c37
                        clear c37
                        (first | rw [c37b0] | (simp only [i64_w, i32_w]; rw [c37b0]) | skip)
                        replace H := Option.bind_eq_some_iff.mp H
                        obtain ⟨t191, A380, H⟩ := H
                        replace H : (impl_most.j5 k5 a1 l3 y167 x10_2 x45_2 x12_3 x15_5 x67_4 (rd x10_2 x67_4) x76_5 a2 x45_2 x10_2 (x10_2.length : Int) x67_4 (x10_2.length : Int) x76_5 (decide (t191 > x12_3))) = some r := H
                        have A38 := Aside0.mk A380
                        clear A380
                        have H' := Aside0.mk H
                        clear H
                        go_wp2_with (first | (go_at_call 53; (with_reducible refine (bits_OnesCount.calls (IntKind.u64.wrap (x76_5)) t191 _ A38.out).mono ?_); rintro e w' ⟨rfl, ⟨nd, rfl⟩⟩))
                        go_meet
                        case rel => exact ⟨_, (decide (t191 > x12_3)), (by first | rfl | (simp; done) | (simp [*]; done)), (by first | exact H' | (rw [hji11]; exact H')), ⟨by have := HK1.out; have := HK2.out; have := HK3.out; have := HK4.out; have := HK5.out; first | omega | exact Nat.le_refl _⟩, ⟨by (with_reducible repeat (first | apply Kd.R_alloc | apply Kd.R_drewN | apply Kd.R_drew)); exact HO_10.out⟩, ⟨by (with_reducible repeat (first | apply Kd.R_alloc | apply Kd.R_drewN | apply Kd.R_drew)); exact HO_15.out⟩, ⟨by (with_reducible repeat (first | apply Kd.R_alloc | apply Kd.R_drewN | apply Kd.R_drew)); exact HO_65.out⟩, ⟨by repeat (first | (with_reducible first | exact HB.out | apply below_alloc | apply pw_below_drewN | apply below_drew1) | exact HB.out)⟩⟩
                       ·rw [if_neg c37] at H
                        have c37b0 : ((Go.bits .and .i64 x67_4 x76_5) == 0) = false := beq_eq_false_iff_ne.mpr c37
                        have c37b1 : ((Go.bits .and .i64 x67_4 x76_5) != 0) = true := bne_iff_ne.mpr c37
                        (first | rw [c37b0] | (simp only [i64_w, i32_w]; rw [c37b0]) | skip)
                        have H' := Aside0.mk H
                        clear H
                        go_wp2
                        go_meet
                        case rel => exact ⟨_, (true), (by first | rfl | (simp; done) | (simp [*]; done)), (by first | exact H' | (rw [hji11]; exact H')), ⟨by have := HK1.out; have := HK2.out; have := HK3.out; have := HK4.out; have := HK5.out; first | omega | exact Nat.le_refl _⟩, ⟨by (with_reducible repeat (first | apply Kd.R_alloc | apply Kd.R_drewN | apply Kd.R_drew)); exact HO_10.out⟩, ⟨by (with_reducible repeat (first | apply Kd.R_alloc | apply Kd.R_drewN | apply Kd.R_drew)); exact HO_15.out⟩, ⟨by (with_reducible repeat (first | apply Kd.R_alloc | apply Kd.R_drewN | apply Kd.R_drew)); exact HO_65.out⟩, ⟨by repeat (first | (with_reducible first | exact HB.out | apply below_alloc | apply pw_below_drewN | apply below_drew1) | exact HB.out)⟩⟩
                      case rest =>
                       clear HC36
                       try clear c1
                       try clear p1
                       try clear q1
                       try clear hx1
                       try clear c2
                       try clear p2
                       try clear c3
                       try clear c4
                       try clear c5
                       try clear c5b0
                       try clear c5b1
                       try clear c6
                       try clear c6b0
                       try clear c6b1
                       try clear p6
                       try clear c7
                       try clear c7b0
                       try clear c8
                       try clear c8b0
                       try clear c13
                       try clear q13
                       try clear q14
                       try clear p18
                       try clear q18
                       try clear hx18
                       try clear c19
                       try clear c19b0
                       try clear p19
                       try clear q19
                       try clear hx19
                       try clear c20
                       try clear c22
                       try clear c22b0
                       try clear c23
                       try clear c23b0
                       try clear c24
                       try clear c24b0
                       try clear c25
                       try clear c25b0
                       try clear c26
                       try clear c26b0
                       try clear c26b1
                       try clear c27
                       try clear c27b0
                       try clear c31
                       try clear c31b0
                       try clear c32
                       try clear c32b0
                       try clear c33
                       try clear c33b0
                       try clear c34
                       try clear c34b0
                       try clear c35
                       try clear c35b0
                       try clear c37
                       try clear c37b0
                       try clear c37b1
                       try clear hx186_0
                       try clear hx190_0
                       try clear p1
                       try clear p18
                       try clear p186
                       try clear p19
                       try clear p190
                       try clear p2
                       try clear p6
                       try clear q013
                       try clear q1
                       try clear q13
                       try clear q14
                       try clear q18
                       try clear q186
                       try clear q19
                       try clear q190
                       obtain ⟨kq, x89_35, rfl, HA, HJ35, HO_10, HO_15, HO_65, HB⟩ := hcut
                       cases kq with
                       | zero => exact absurd HA.out (by simp [impl_most.j5])
                       | succ kj35 =>
                        have H := HA.out
                        clear HA
                        simp only [impl_most.j5] at H
                        by_cases c39 : x89_35 = true
                        ·subst c39
                         have H1 : (impl_most.l4 kj35 a1 l3 y167 x10_2 x45_2 x12_3 x15_5 x67_4 (rd x10_2 x67_4) a2 x45_2 x10_2 (x10_2.length : Int) x67_4 (x10_2.length : Int) (wrap64 (x76_5 + 1))) = some r := by rw [if_pos rfl] at H; exact H
                         clear H
                         have H := H1
                         clear H1
                         have H' := Aside0.mk H
                         clear H
                         go_wp2
                         go_roundg kj35
                         case measure => have := HK1.out; have := HK2.out; have := HK3.out; have := HK4.out; have := HK5.out; have := HJ35.out; omega
                         case rel => exact ⟨(x15_5), (wrap64 (x76_5 + 1)), (by first | rfl | (simp; done) | (simp [*]; done)), (by first | exact H' | (rw [hji11]; exact H')), ⟨by have := HK1.out; have := HK2.out; have := HK3.out; have := HK4.out; have := HK5.out; have := HJ35.out; omega⟩, ⟨by (with_reducible repeat (first | apply Kd.R_alloc | apply Kd.R_drewN | apply Kd.R_drew)); exact HO_10.out⟩, ⟨by (with_reducible repeat (first | apply Kd.R_alloc | apply Kd.R_drewN | apply Kd.R_drew)); exact HO_15.out⟩, ⟨by (with_reducible repeat (first | apply Kd.R_alloc | apply Kd.R_drewN | apply Kd.R_drew)); exact HO_65.out⟩, ⟨by repeat (first | (with_reducible first | exact HB.out | apply below_alloc | apply pw_below_drewN | apply below_drew1) | exact HB.out)⟩⟩
                        ·replace c39 := Bool.eq_false_iff.mpr c39
                         subst c39
                         have H1 : (impl_most.l5 kj35 a1 l3 y167 x10_2 x45_2 x12_3 x15_5 x67_4 (rd x10_2 x67_4) x76_5 (rd x10_2 x67_4) a2 x45_2 x10_2 (x10_2.length : Int) x67_4 (x10_2.length : Int) x76_5 y167 (y167.length : Int) 0) = some r := by rw [if_neg (show ¬ (false = true) by decide)] at H; exact H
                         clear H
                         have H := H1
                         clear H1
                         have H' := Aside0.mk H
                         clear H
                         go_wp2
                         go_loopg [19, 93] kj35 (fun kq v19 v93 w' => ∃ (x19_7 : Int) (x93_7 : Int), v19 = .int .i64 x19_7 ∧ v93 = .int .i64 x93_7 ∧ Aside0 (impl_most.l5 kq a1 l3 y167 x10_2 x45_2 x12_3 x15_5 x67_4 (rd x10_2 x67_4) x76_5 x19_7 a2 x45_2 x10_2 (x10_2.length : Int) x67_4 (x10_2.length : Int) x76_5 y167 (y167.length : Int) x93_7 = some r) ∧ Aside0 (kq ≤ kj35) ∧ Aside0 (Kd.R (Kd.int .i64) 2 w' w.heap.size (fun k_ => some k_ ≠ (v188 : Value).ownBlock) (.slice (some ad190) x10_2.length co29) x10_2) ∧ Aside0 (Kd.R (Kd.int .i64) 2 w' w.heap.size (fun k_ => some k_ ≠ ((.slice (some ad190) x10_2.length co29) : Value).ownBlock ∧ some k_ ≠ ((.slice (some ad190) x10_2.length co29) : Value).ownBlock) v188 x15_5) ∧ Aside0 (Kd.R (Kd.int .i64) 2 w' w.heap.size (fun k_ => some k_ ≠ (v188 : Value).ownBlock) (.slice (some ad190) x10_2.length co29) x10_2) ∧ Aside0 (Below w.heap.size w w'))
                         case atStart => exact ⟨((rd x10_2 x67_4)), (0), (by first | rfl | (simp; done) | (simp [*]; done)), (by first | rfl | (simp; done) | (simp [*]; done)), H', ⟨Nat.le_refl _⟩, ⟨by (with_reducible repeat (first | apply Kd.R_alloc | apply Kd.R_drewN | apply Kd.R_drew)); exact HO_10.out⟩, ⟨by (with_reducible repeat (first | apply Kd.R_alloc | apply Kd.R_drewN | apply Kd.R_drew)); exact HO_15.out⟩, ⟨by (with_reducible repeat (first | apply Kd.R_alloc | apply Kd.R_drewN | apply Kd.R_drew)); exact HO_65.out⟩, ⟨by repeat (first | (with_reducible first | exact HB.out | apply below_alloc | apply pw_below_drewN | apply below_drew1) | exact HB.out)⟩⟩
                         case round =>
                          clear H'
                          try clear c1
                          try clear p1
                          try clear q1
                          try clear hx1
                          try clear c2
                          try clear p2
                          try clear c3
                          try clear c4
                          try clear c5
                          try clear c5b0
                          try clear c5b1
                          try clear c6
                          try clear c6b0
                          try clear c6b1
                          try clear p6
                          try clear c7
                          try clear c7b0
                          try clear c8
                          try clear c8b0
                          try clear c13
                          try clear q13
                          try clear q14
                          try clear p18
                          try clear q18
                          try clear hx18
                          try clear c19
                          try clear c19b0
                          try clear p19
                          try clear q19
                          try clear hx19
                          try clear c20
                          try clear c22
                          try clear c22b0
                          try clear c23
                          try clear c23b0
                          try clear c24
                          try clear c24b0
                          try clear c25
                          try clear c25b0
                          try clear c26
                          try clear c26b0
                          try clear c26b1
                          try clear c27
                          try clear c27b0
                          try clear c31
                          try clear c31b0
                          try clear c32
                          try clear c32b0
                          try clear c33
                          try clear c33b0
                          try clear c34
                          try clear c34b0
                          try clear c35
                          try clear c35b0
                          try clear c37
                          try clear c37b0
                          try clear c37b1
                          try clear c39
                          try clear hx186_0
                          try clear hx190_0
                          try clear p1
                          try clear p18
                          try clear p186
                          try clear p19
                          try clear p190
                          try clear p2
                          try clear p6
                          try clear q013
                          try clear q1
                          try clear q13
                          try clear q14
                          try clear q18
                          try clear q186
                          try clear q19
                          try clear q190
                          obtain ⟨x19_7, x93_7, rfl, rfl, HA, HK7, HO_10, HO_15, HO_65, HB⟩ := hrel
                          cases gk with
                          | zero => exact absurd HA.out (by simp [impl_most.l5])
                          | succ k7 =>
                           have H := HA.out
                           clear HA
                           simp only [impl_most.l5] at H
                           by_cases c40 : x93_7 < (y167.length : Int)
                           ·rw [if_pos c40] at H
                            have c40b0 : decide (x93_7 < (y167.length : Int)) = true := decide_eq_true c40
                            clear c40
                            by_cases c41 : 0 ≤ x93_7
                            ·rw [if_pos c41] at H
                             have c41b0 : decide (0 ≤ x93_7) = true := decide_eq_true c41
                             clear c41
                             by_cases c42 : x93_7 < (y167.length : Int)
                             ·rw [if_pos c42] at H
                              have c42b0 : decide (x93_7 < (y167.length : Int)) = true := decide_eq_true c42
                              clear c42
                              have c43b0 := eq_true (of_decide_eq_true (by first | (with_reducible assumption) | assumption) : 0 ≤ x93_7)
                              obtain ⟨ji44, hji44⟩ : ∃ j_ : Int, (shr .i64 x76_5 x93_7) = j_ := ⟨_, rfl⟩
                              replace H : (if (Go.bits .and .i64 (ji44) 1) = 1 then ((impl_Plot_worth.f ((rd_T40 y167 x93_7).f0) ((rd_T40 y167 x93_7).f1) ((rd_T40 y167 x93_7).f2) ((rd_T40 y167 x93_7).f3) x45_2).bind fun t194 => (impl_most.l5 k7 a1 l3 y167 x10_2 x45_2 x12_3 x15_5 x67_4 (rd x10_2 x67_4) x76_5 (wrap64 (x19_7 + t194)) a2 x45_2 x10_2 (x10_2.length : Int) x67_4 (x10_2.length : Int) x76_5 y167 (y167.length : Int) (wrap64 (x93_7 + 1)))) else (impl_most.l5 k7 a1 l3 y167 x10_2 x45_2 x12_3 x15_5 x67_4 (rd x10_2 x67_4) x76_5 x19_7 a2 x45_2 x10_2 (x10_2.length : Int) x67_4 (x10_2.length : Int) x76_5 y167 (y167.length : Int) (wrap64 (x93_7 + 1)))) = some r := by first | (rw [hji44] at H; exact H) | (simp only [hji44] at H ⊢; exact H)
                              have hji44_ : (x76_5 / 2 ^ min x93_7.toNat 64) = ji44 := hji44
                              have hji44z : x93_7 ≤ 64 → (x76_5 / 2 ^ x93_7.toNat) = ji44 := shr_small hji44
                              by_cases c45 : (Go.bits .and .i64 (ji44) 1) = 1
                              ·rw [if_pos c45] at H
                               have c45b0 : ((Go.bits .and .i64 (ji44) 1) == 1) = true := beq_iff_eq.mpr c45
                               have c45b1 : ((Go.bits .and .i64 (ji44) 1) != 1) = false := bne_eq_false_iff_eq.mpr c45
                               clear c45
                               replace H := Option.bind_eq_some_iff.mp H
                               obtain ⟨t194, A460, H⟩ := H
                               replace H : (impl_most.l5 k7 a1 l3 y167 x10_2 x45_2 x12_3 x15_5 x67_4 (rd x10_2 x67_4) x76_5 (wrap64 (x19_7 + t194)) a2 x45_2 x10_2 (x10_2.length : Int) x67_4 (x10_2.length : Int) x76_5 y167 (y167.length : Int) (wrap64 (x93_7 + 1))) = some r := H
                               have A46 := Aside0.mk A460
                               clear A460
                               have H' := Aside0.mk H
                               clear H
                               have p192 : 0 ≤ (x93_7 : Int) := of_decide_eq_true (by first | (with_reducible assumption) | assumption)
                               have q192 : x93_7 < (y167.length : Int) := of_decide_eq_true (by first | (with_reducible assumption) | assumption)
                               obtain ⟨ad192, e192, hx192_0, hx192_1, hx192_2, hx192_3⟩ := at_T40 HR170.out x93_7 p192 q192
                               cases e192
                               replace hx192_0 := (HB.out.cell (World.block_lt_of_cell? w _ hx192_0)).trans hx192_0
                               replace hx192_1 := (HB.out.cell (World.block_lt_of_cell? w _ hx192_1)).trans hx192_1
                               replace hx192_2 := (HB.out.cell (World.block_lt_of_cell? w _ hx192_2)).trans hx192_2
                               replace hx192_3 := (HB.out.cell (World.block_lt_of_cell? w _ hx192_3)).trans hx192_3
                               replace p192 := eq_true p192
                               replace q192 := eq_true q192
                               go_wp2_with (first | ((with_reducible refine gate_dst (N := 21) rfl ?_); refine box_event ?hg (N := 21) ?hd (cs := #[.int .i16 0, .int .i16 0, .int .i16 0, .int .i16 0]) (t := 40) ?hr ?_; (case hd => rfl); (case hg => rfl); (case hr => first | (go_simp; done) | (go_simp; rfl)); intro gb193 hg w47 hbox hb; have n0_ := Aside0.mk (Kd.R_below (by (with_reducible repeat (first | apply Kd.R_alloc | apply Kd.R_drewN | apply Kd.R_drew)); exact HO_10.out) hb); have n1_ := Aside0.mk (Kd.R_below (by (with_reducible repeat (first | apply Kd.R_alloc | apply Kd.R_drewN | apply Kd.R_drew)); exact HO_15.out) hb); have n2_ := Aside0.mk (Kd.R_below (by (with_reducible repeat (first | apply Kd.R_alloc | apply Kd.R_drewN | apply Kd.R_drew)); exact HO_65.out) hb); have n3_ := Aside0.mk (below_step (by repeat (first | (with_reducible first | exact HB.out | apply below_alloc | apply pw_below_drewN | apply below_drew1) | exact HB.out)) hb); have n4_ := Aside0.mk (hbox); have n5_ := Aside0.mk ((by rw [hg]; exact (below_size (by repeat (first | (with_reducible first | exact HB.out | apply below_alloc | apply pw_below_drewN | apply below_drew1) | exact HB.out))) : w.heap.size ≤ gb193)); have n6_ := Aside0.mk ((by rw [hg]; exact (below_size (by repeat (first | (with_reducible first | exact HB.out | apply below_alloc | apply pw_below_drewN | apply below_drew1) | exact HB.out))) : w.heap.size ≤ gb193)); clear HO_10; clear HO_15; clear HO_65; clear HB; have HO_10 := n0_; have HO_15 := n1_; have HO_65 := n2_; have HB := n3_; have BK193 := n4_; have GW193 := n5_; have GE193 := n6_; clear n0_ n1_ n2_ n3_ n4_ n5_ n6_; clear hb hbox hg; have hcz48_0 : w47.cell? ⟨gb193, 0, none⟩ = some (.int .i16 0) := (blk_cell BK193.out 0).trans rfl; have hcz48_1 : w47.cell? ⟨gb193, 1, none⟩ = some (.int .i16 0) := (blk_cell BK193.out 1).trans rfl; have hcz48_2 : w47.cell? ⟨gb193, 2, none⟩ = some (.int .i16 0) := (blk_cell BK193.out 2).trans rfl; have hcz48_3 : w47.cell? ⟨gb193, 3, none⟩ = some (.int .i16 0) := (blk_cell BK193.out 3).trans rfl; have hfz48_0 := blk_frozen BK193.out 0; have hfz48_1 := blk_frozen BK193.out 1; have hfz48_2 := blk_frozen BK193.out 2; have hfz48_3 := blk_frozen BK193.out 3) | ((with_reducible refine gate_callee (f := 32) rfl ?_); refine goesL_ (some 106) rfl rfl Try.func32 (by kernel_rfl) rfl #[.agg #[.int .i16 ((rd_T40 y167 x93_7).f0), .int .i16 ((rd_T40 y167 x93_7).f1), .int .i16 ((rd_T40 y167 x93_7).f2), .int .i16 ((rd_T40 y167 x93_7).f3)], .int .i64 x45_2] rfl (by (try simp only [List.map_toArray, List.map_cons, List.map_nil]); first | done | rfl | (simp only [List.length_drop, List.length_take]; rfl)) ?_; (with_reducible refine (impl_Plot_worth.calls ((rd_T40 y167 x93_7).f0) ((rd_T40 y167 x93_7).f1) ((rd_T40 y167 x93_7).f2) ((rd_T40 y167 x93_7).f3) x45_2 t194 _ A46.out).mono ?_); rintro e w49 ⟨rfl, hb⟩; refine ⟨_, rfl, ?_⟩; have n0_ := Aside0.mk (Kd.R_below (by (with_reducible repeat (first | apply Kd.R_alloc | apply Kd.R_drewN | apply Kd.R_drew)); exact (Kd.R_mono (Kd.R_far (p := ⟨gb193, 3, none⟩) (Kd.R_far (p := ⟨gb193, 2, none⟩) (Kd.R_far (p := ⟨gb193, 1, none⟩) (Kd.R_far (p := ⟨gb193, 0, none⟩) (Kd.R_types HO_10.out BK193.out (by decide)) (fun _ hk => hk.2) (.int .i16 ((rd_T40 y167 x93_7).f0))) (fun _ hk => hk.2) (.int .i16 ((rd_T40 y167 x93_7).f1))) (fun _ hk => hk.2) (.int .i16 ((rd_T40 y167 x93_7).f2))) (fun _ hk => hk.2) (.int .i16 ((rd_T40 y167 x93_7).f3))) (fun _ h_ => h_.1))) hb); have n1_ := Aside0.mk (Kd.R_below (by (with_reducible repeat (first | apply Kd.R_alloc | apply Kd.R_drewN | apply Kd.R_drew)); exact (Kd.R_mono (Kd.R_far (p := ⟨gb193, 3, none⟩) (Kd.R_far (p := ⟨gb193, 2, none⟩) (Kd.R_far (p := ⟨gb193, 1, none⟩) (Kd.R_far (p := ⟨gb193, 0, none⟩) (Kd.R_types HO_15.out BK193.out (by decide)) (fun _ hk => hk.2) (.int .i16 ((rd_T40 y167 x93_7).f0))) (fun _ hk => hk.2) (.int .i16 ((rd_T40 y167 x93_7).f1))) (fun _ hk => hk.2) (.int .i16 ((rd_T40 y167 x93_7).f2))) (fun _ hk => hk.2) (.int .i16 ((rd_T40 y167 x93_7).f3))) (fun _ h_ => h_.1))) hb); have n2_ := Aside0.mk (Kd.R_below (by (with_reducible repeat (first | apply Kd.R_alloc | apply Kd.R_drewN | apply Kd.R_drew)); exact (Kd.R_mono (Kd.R_far (p := ⟨gb193, 3, none⟩) (Kd.R_far (p := ⟨gb193, 2, none⟩) (Kd.R_far (p := ⟨gb193, 1, none⟩) (Kd.R_far (p := ⟨gb193, 0, none⟩) (Kd.R_types HO_65.out BK193.out (by decide)) (fun _ hk => hk.2) (.int .i16 ((rd_T40 y167 x93_7).f0))) (fun _ hk => hk.2) (.int .i16 ((rd_T40 y167 x93_7).f1))) (fun _ hk => hk.2) (.int .i16 ((rd_T40 y167 x93_7).f2))) (fun _ hk => hk.2) (.int .i16 ((rd_T40 y167 x93_7).f3))) (fun _ h_ => h_.1))) hb); have n3_ := Aside0.mk (blk_below (g := gb193) (o := .cells #[.int .i16 ((rd_T40 y167 x93_7).f0), .int .i16 ((rd_T40 y167 x93_7).f1), .int .i16 ((rd_T40 y167 x93_7).f2), .int .i16 ((rd_T40 y167 x93_7).f3)] 40 (0, 0)) (by (with_reducible repeat (first | refine blk_drewN ?_ _ | refine blk_drew ?_ | refine blk_alloc ?_ _)); refine blk_put (cs := #[.int .i16 ((rd_T40 y167 x93_7).f0), .int .i16 ((rd_T40 y167 x93_7).f1), .int .i16 ((rd_T40 y167 x93_7).f2), .int .i16 0]) ?_ 3 _ rfl; (with_reducible repeat (first | refine blk_drewN ?_ _ | refine blk_drew ?_ | refine blk_alloc ?_ _)); refine blk_put (cs := #[.int .i16 ((rd_T40 y167 x93_7).f0), .int .i16 ((rd_T40 y167 x93_7).f1), .int .i16 0, .int .i16 0]) ?_ 2 _ rfl; (with_reducible repeat (first | refine blk_drewN ?_ _ | refine blk_drew ?_ | refine blk_alloc ?_ _)); refine blk_put (cs := #[.int .i16 ((rd_T40 y167 x93_7).f0), .int .i16 0, .int .i16 0, .int .i16 0]) ?_ 1 _ rfl; (with_reducible repeat (first | refine blk_drewN ?_ _ | refine blk_drew ?_ | refine blk_alloc ?_ _)); refine blk_put (cs := #[.int .i16 0, .int .i16 0, .int .i16 0, .int .i16 0]) ?_ 0 _ rfl; (with_reducible repeat (first | refine blk_drewN ?_ _ | refine blk_drew ?_ | refine blk_alloc ?_ _)); exact BK193.out) hb); have n4_ := Aside0.mk (below_step (by repeat (first | (with_reducible first | exact HB.out | apply below_alloc | apply pw_below_drewN | apply below_drew1 | refine below_set ?_ GE193.out) | exact HB.out)) hb); clear HO_10; clear HO_15; clear HO_65; clear BK193; clear HB; have HO_10 := n0_; have HO_15 := n1_; have HO_65 := n2_; have BK193 := n3_; have HB := n4_; clear n0_ n1_ n2_ n3_ n4_; (try clear hb); (try clear hb2); (try clear hk); (try clear hi)))
                               go_roundg k7
                               case measure => have := HK1.out; have := HK2.out; have := HK3.out; have := HK4.out; have := HK5.out; have := HJ35.out; have := HK7.out; omega
                               case rel => exact ⟨(wrap64 (x19_7 + t194)), (wrap64 (x93_7 + 1)), (by first | rfl | (simp; done) | (simp [*]; done)), (by first | rfl | (simp; done) | (simp [*]; done)), (by first | exact H' | (rw [hji44]; exact H') | (rw [hji11]; exact H')), ⟨by have := HK1.out; have := HK2.out; have := HK3.out; have := HK4.out; have := HK5.out; have := HJ35.out; have := HK7.out; omega⟩, ⟨by (with_reducible repeat (first | apply Kd.R_alloc | apply Kd.R_drewN | apply Kd.R_drew)); exact HO_10.out⟩, ⟨by (with_reducible repeat (first | apply Kd.R_alloc | apply Kd.R_drewN | apply Kd.R_drew)); exact HO_15.out⟩, ⟨by (with_reducible repeat (first | apply Kd.R_alloc | apply Kd.R_drewN | apply Kd.R_drew)); exact HO_65.out⟩, ⟨by repeat (first | (with_reducible first | exact HB.out | apply below_alloc | apply pw_below_drewN | apply below_drew1 | refine below_set ?_ GE193.out) | exact HB.out)⟩⟩
                              ·rw [if_neg c45] at H
                               have c45b0 : ((Go.bits .and .i64 (ji44) 1) == 1) = false := beq_eq_false_iff_ne.mpr c45
                               have c45b1 : ((Go.bits .and .i64 (ji44) 1) != 1) = true := bne_iff_ne.mpr c45
                               have H' := Aside0.mk H
                               clear H
                               have p192 : 0 ≤ (x93_7 : Int) := of_decide_eq_true (by first | (with_reducible assumption) | assumption)
                               have q192 : x93_7 < (y167.length : Int) := of_decide_eq_true (by first | (with_reducible assumption) | assumption)
                               obtain ⟨ad192, e192, hx192_0, hx192_1, hx192_2, hx192_3⟩ := at_T40 HR170.out x93_7 p192 q192
                               cases e192
                               replace hx192_0 := (HB.out.cell (World.block_lt_of_cell? w _ hx192_0)).trans hx192_0
                               replace hx192_1 := (HB.out.cell (World.block_lt_of_cell? w _ hx192_1)).trans hx192_1
                               replace hx192_2 := (HB.out.cell (World.block_lt_of_cell? w _ hx192_2)).trans hx192_2
                               replace hx192_3 := (HB.out.cell (World.block_lt_of_cell? w _ hx192_3)).trans hx192_3
                               replace p192 := eq_true p192
                               replace q192 := eq_true q192
                               go_wp2_with (first | ((with_reducible refine gate_dst (N := 21) rfl ?_); refine box_event ?hg (N := 21) ?hd (cs := #[.int .i16 0, .int .i16 0, .int .i16 0, .int .i16 0]) (t := 40) ?hr ?_; (case hd => rfl); (case hg => rfl); (case hr => first | (go_simp; done) | (go_simp; rfl)); intro gb193 hg w50 hbox hb; have n0_ := Aside0.mk (Kd.R_below (by (with_reducible repeat (first | apply Kd.R_alloc | apply Kd.R_drewN | apply Kd.R_drew)); exact HO_10.out) hb); have n1_ := Aside0.mk (Kd.R_below (by (with_reducible repeat (first | apply Kd.R_alloc | apply Kd.R_drewN | apply Kd.R_drew)); exact HO_15.out) hb); have n2_ := Aside0.mk (Kd.R_below (by (with_reducible repeat (first | apply Kd.R_alloc | apply Kd.R_drewN | apply Kd.R_drew)); exact HO_65.out) hb); have n3_ := Aside0.mk (below_step (by repeat (first | (with_reducible first | exact HB.out | apply below_alloc | apply pw_below_drewN | apply below_drew1) | exact HB.out)) hb); have n4_ := Aside0.mk (hbox); have n5_ := Aside0.mk ((by rw [hg]; exact (below_size (by repeat (first | (with_reducible first | exact HB.out | apply below_alloc | apply pw_below_drewN | apply below_drew1) | exact HB.out))) : w.heap.size ≤ gb193)); have n6_ := Aside0.mk ((by rw [hg]; exact (below_size (by repeat (first | (with_reducible first | exact HB.out | apply below_alloc | apply pw_below_drewN | apply below_drew1) | exact HB.out))) : w.heap.size ≤ gb193)); clear HO_10; clear HO_15; clear HO_65; clear HB; have HO_10 := n0_; have HO_15 := n1_; have HO_65 := n2_; have HB := n3_; have BK193 := n4_; have GW193 := n5_; have GE193 := n6_; clear n0_ n1_ n2_ n3_ n4_ n5_ n6_; clear hb hbox hg; have hcz51_0 : w50.cell? ⟨gb193, 0, none⟩ = some (.int .i16 0) := (blk_cell BK193.out 0).trans rfl; have hcz51_1 : w50.cell? ⟨gb193, 1, none⟩ = some (.int .i16 0) := (blk_cell BK193.out 1).trans rfl; have hcz51_2 : w50.cell? ⟨gb193, 2, none⟩ = some (.int .i16 0) := (blk_cell BK193.out 2).trans rfl; have hcz51_3 : w50.cell? ⟨gb193, 3, none⟩ = some (.int .i16 0) := (blk_cell BK193.out 3).trans rfl; have hfz51_0 := blk_frozen BK193.out 0; have hfz51_1 := blk_frozen BK193.out 1; have hfz51_2 := blk_frozen BK193.out 2; have hfz51_3 := blk_frozen BK193.out 3))
                               go_roundg k7
                               case measure => have := HK1.out; have := HK2.out; have := HK3.out; have := HK4.out; have := HK5.out; have := HJ35.out; have := HK7.out; omega
                               case rel => exact ⟨(x19_7), (wrap64 (x93_7 + 1)), (by first | rfl | (simp; done) | (simp [*]; done)), (by first | rfl | (simp; done) | (simp [*]; done)), (by first | exact H' | (rw [hji44]; exact H') | (rw [hji11]; exact H')), ⟨by have := HK1.out; have := HK2.out; have := HK3.out; have := HK4.out; have := HK5.out; have := HJ35.out; have := HK7.out; omega⟩, ⟨by (with_reducible repeat (first | apply Kd.R_alloc | apply Kd.R_drewN | apply Kd.R_drew)); exact Kd.R_mono (Kd.R_far (p := ⟨gb193, 3, none⟩) (Kd.R_far (p := ⟨gb193, 2, none⟩) (Kd.R_far (p := ⟨gb193, 1, none⟩) (Kd.R_far (p := ⟨gb193, 0, none⟩) (Kd.R_types HO_10.out BK193.out (by decide)) (fun _ hk => hk.2) (.int .i16 ((rd_T40 y167 x93_7).f0))) (fun _ hk => hk.2) (.int .i16 ((rd_T40 y167 x93_7).f1))) (fun _ hk => hk.2) (.int .i16 ((rd_T40 y167 x93_7).f2))) (fun _ hk => hk.2) (.int .i16 ((rd_T40 y167 x93_7).f3))) (fun _ hk => hk.1)⟩, ⟨by (with_reducible repeat (first | apply Kd.R_alloc | apply Kd.R_drewN | apply Kd.R_drew)); exact Kd.R_mono (Kd.R_far (p := ⟨gb193, 3, none⟩) (Kd.R_far (p := ⟨gb193, 2, none⟩) (Kd.R_far (p := ⟨gb193, 1, none⟩) (Kd.R_far (p := ⟨gb193, 0, none⟩) (Kd.R_types HO_15.out BK193.out (by decide)) (fun _ hk => hk.2) (.int .i16 ((rd_T40 y167 x93_7).f0))) (fun _ hk => hk.2) (.int .i16 ((rd_T40 y167 x93_7).f1))) (fun _ hk => hk.2) (.int .i16 ((rd_T40 y167 x93_7).f2))) (fun _ hk => hk.2) (.int .i16 ((rd_T40 y167 x93_7).f3))) (fun _ hk => ⟨hk.1.1, hk.1.2⟩)⟩, ⟨by (with_reducible repeat (first | apply Kd.R_alloc | apply Kd.R_drewN | apply Kd.R_drew)); exact Kd.R_mono (Kd.R_far (p := ⟨gb193, 3, none⟩) (Kd.R_far (p := ⟨gb193, 2, none⟩) (Kd.R_far (p := ⟨gb193, 1, none⟩) (Kd.R_far (p := ⟨gb193, 0, none⟩) (Kd.R_types HO_65.out BK193.out (by decide)) (fun _ hk => hk.2) (.int .i16 ((rd_T40 y167 x93_7).f0))) (fun _ hk => hk.2) (.int .i16 ((rd_T40 y167 x93_7).f1))) (fun _ hk => hk.2) (.int .i16 ((rd_T40 y167 x93_7).f2))) (fun _ hk => hk.2) (.int .i16 ((rd_T40 y167 x93_7).f3))) (fun _ hk => hk.1)⟩, ⟨by repeat (first | (with_reducible first | exact HB.out | apply below_alloc | apply pw_below_drewN | apply below_drew1 | refine below_set ?_ GE193.out) | exact HB.out)⟩⟩
                             ·rw [if_neg c42] at H
                              exact absurd H (by simp)
                            ·rw [if_neg c41] at H
                             exact absurd H (by simp)
                           ·rw [if_neg c40] at H
                            have c40b0 : decide (x93_7 < (y167.length : Int)) = false := decide_eq_false c40
                            clear c40
                            by_cases c52 : 0 ≤ (Go.bits .or .i64 x67_4 x76_5)
                            ·rw [if_pos c52] at H
                             have c52b0 : decide (0 ≤ (Go.bits .or .i64 x67_4 x76_5)) = true := decide_eq_true c52
                             clear c52
                             by_cases c53 : (Go.bits .or .i64 x67_4 x76_5) < (x15_5.length : Int)
                             ·rw [if_pos c53] at H
                              have c53b0 : decide ((Go.bits .or .i64 x67_4 x76_5) < (x15_5.length : Int)) = true := decide_eq_true c53
                              clear c53
                              obtain ⟨ji54, hji54⟩ : ∃ j_ : Int, (mx (rd x15_5 (Go.bits .or .i64 x67_4 x76_5)) x19_7) = j_ := ⟨_, rfl⟩
                              replace H : (impl_most.l4 k7 a1 l3 y167 x10_2 x45_2 x12_3 (x15_5.set ((Go.bits .or .i64 x67_4 x76_5) : Int).toNat (ji54)) x67_4 (rd x10_2 x67_4) a2 x45_2 x10_2 (x10_2.length : Int) x67_4 (x10_2.length : Int) (wrap64 (x76_5 + 1))) = some r := by first | (rw [hji54] at H; exact H) | (simp only [hji54] at H ⊢; exact H)
                              have hji54_ : (if (rd x15_5 (Go.bits .or .i64 x67_4 x76_5)) < x19_7 then x19_7 else (rd x15_5 (Go.bits .or .i64 x67_4 x76_5))) = ji54 := hji54
                              obtain ⟨y196, hy196⟩ : ∃ y_ : List Int, y_ = (x15_5.set ((Go.bits .or .i64 x67_4 x76_5) : Int).toNat (ji54)) := ⟨_, rfl⟩
                              replace H : (impl_most.l4 k7 a1 l3 y167 x10_2 x45_2 x12_3 y196 x67_4 (rd x10_2 x67_4) a2 x45_2 x10_2 (x10_2.length : Int) x67_4 (x10_2.length : Int) (wrap64 (x76_5 + 1))) = some r := by first | (rw [hy196]; with_reducible exact H) | (have H2_ := (Option.bind_some _ _).symm.trans H; rw [hy196]; with_reducible exact H2_) | (have H2_ := (Option.bind_some _ _).symm.trans H; with_reducible exact H2_) | with_reducible exact H | (rw [hy196]; exact H) | exact H
                              have Ny196 := Aside0.mk hy196
                              clear hy196
                              have H' := Aside0.mk H
                              clear H
                              obtain ⟨Ao56, co56, eo56⟩ := Kd.R_slice HO_15.out
                              subst eo56
                              have p195 : 0 ≤ ((Go.bits .or .i64 x67_4 x76_5) : Int) := of_decide_eq_true (by first | (with_reducible assumption) | assumption)
                              have q195 : (Go.bits .or .i64 x67_4 x76_5) < (x15_5.length : Int) := of_decide_eq_true (by first | (with_reducible assumption) | assumption)
                              obtain ⟨ad195, e195, hx195_0⟩ := Kd.at_int (Kd.R_reads' HO_15.out).2.2 (Go.bits .or .i64 x67_4 x76_5) p195 q195
                              cases e195
                              replace p195 := eq_true p195
                              replace q195 := eq_true q195
                              have p55 : 0 ≤ ((Go.bits .or .i64 x67_4 x76_5) : Int) := of_decide_eq_true (by first | (with_reducible assumption) | assumption)
                              have q55 : ((Go.bits .or .i64 x67_4 x76_5) : Int) < ((x15_5.length : Int) : Int) := of_decide_eq_true (by first | (with_reducible assumption) | assumption)
                              obtain ⟨go55, co55, eo55, gb55, gl55, cl55, HG55⟩ := Kd.R_form HO_15.out (by omega)
                              (first | cases eo55 | (injection eo55 with ea_ en_ ec_; (first | subst ea_ | (injection ea_ with ea_; subst ea_)); subst ec_; clear en_))
                              have GB55 := Aside0.mk gb55
                              have GG55 := Aside0.mk HG55
                              clear gb55 gl55 HG55
                              (first | simp only [add_plain] at hx195_0 | skip)
                              obtain ⟨hx55_0, hf55_0⟩ := Kd.R_celln 0 HO_15.out ((Go.bits .or .i64 x67_4 x76_5) : Int) p55 q55
                              replace p55 := eq_true p55
                              replace q55 := eq_true q55
                              have HP57 := Kd.R_putg HO_15.out ((Go.bits .or .i64 x67_4 x76_5) : Int) ji54
                              go_wp2_with (first | ((with_reducible refine gate_store (t := 2) (p := 121) rfl ?_); refine store_event (t := 2) (p := 121) (v := ?vo_w58) (w1 := (wr.setCell ⟨go55, ((Go.bits .or .i64 x67_4 x76_5) : Int).toNat, none⟩ (.int .i64 ji54))) ?hg ?ho ?hn ?hr ?_; (case ho => rfl); (case hg => rfl); (case hn => rfl); (case hr => first | (go_simp; done) | (go_simp; rfl)); intro w58 hw; have hg : wr.grownBy w58 (some go55) := (by rw [hw]; exact HP57.2); have hp_ : Kd.R (Kd.int .i64) 2 w58 w.heap.size (fun k_ => some k_ ≠ (.slice (some ad190) x10_2.length co29 : Value).ownBlock ∧ some k_ ≠ (.slice (some ad190) x10_2.length co29 : Value).ownBlock) (.slice (some ⟨go55, 0, none⟩) x15_5.length co56) y196 := (by rw [hw, Ny196.out]; exact HP57.1); clear HP57; have n0_ := Aside0.mk (Kd.R_after (v := (.slice (some ⟨go55, 0, none⟩) x15_5.length co56)) (v1 := (.slice (some ⟨go55, 0, none⟩) x15_5.length co56)) (ok := (fun _ => True)) (by (with_reducible repeat (first | apply Kd.R_alloc | apply Kd.R_drewN | apply Kd.R_drew)); exact Kd.R_mono HO_10.out (fun _ hk => ⟨trivial, hk⟩)) hg (.inl rfl)); have n1_ := Aside0.mk (hp_); have n2_ := Aside0.mk (Kd.R_after (v := (.slice (some ⟨go55, 0, none⟩) x15_5.length co56)) (v1 := (.slice (some ⟨go55, 0, none⟩) x15_5.length co56)) (ok := (fun _ => True)) (by (with_reducible repeat (first | apply Kd.R_alloc | apply Kd.R_drewN | apply Kd.R_drew)); exact Kd.R_mono HO_65.out (fun _ hk => ⟨trivial, hk⟩)) hg (.inl rfl)); have n3_ := Aside0.mk ((by rw [hw]; exact below_set (HB.out) GB55.out : Below w.heap.size w w58)); clear HO_10; clear HO_15; clear HO_65; clear HB; have HO_10 := n0_; have HO_15 := n1_; have HO_65 := n2_; have HB := n3_; clear n0_ n1_ n2_ n3_; clear hg hw hp_))
                              go_roundg k7
                              case measure => have := HK1.out; have := HK2.out; have := HK3.out; have := HK4.out; have := HK5.out; have := HJ35.out; have := HK7.out; omega
                              case rel => exact ⟨(y196), (wrap64 (x76_5 + 1)), (by first | rfl | (simp; done) | (simp [*]; done)), (by first | exact H' | (rw [hji54]; exact H') | (rw [hji44]; exact H') | (rw [hji11]; exact H')), ⟨by have := HK1.out; have := HK2.out; have := HK3.out; have := HK4.out; have := HK5.out; have := HJ35.out; have := HK7.out; omega⟩, ⟨by (with_reducible repeat (first | apply Kd.R_alloc | apply Kd.R_drewN | apply Kd.R_drew)); exact Kd.R_mono HO_10.out (fun _ hk => hk.2)⟩, ⟨by (with_reducible repeat (first | apply Kd.R_alloc | apply Kd.R_drewN | apply Kd.R_drew)); exact HO_15.out⟩, ⟨by (with_reducible repeat (first | apply Kd.R_alloc | apply Kd.R_drewN | apply Kd.R_drew)); exact Kd.R_mono HO_65.out (fun _ hk => hk.2)⟩, ⟨by repeat (first | (with_reducible first | exact HB.out | apply below_alloc | apply pw_below_drewN | apply below_drew1) | exact HB.out)⟩⟩
                             ·rw [if_neg c53] at H
                              exact absurd H (by simp)
                            ·rw [if_neg c52] at H
                             exact absurd H (by simp)
                     ·rw [if_neg c35] at H
                      have c35b0 : decide (x76_5 < (x10_2.length : Int)) = false := decide_eq_false c35
                      clear c35
                      have H' := Aside0.mk H
                      clear H
                      go_wp2
                      go_roundg k5
                      case measure => have := HK1.out; have := HK2.out; have := HK3.out; have := HK4.out; have := HK5.out; omega
                      case rel => exact ⟨(x15_5), (wrap64 (x67_4 + 1)), (by first | rfl | (simp; done) | (simp [*]; done)), (by first | exact H' | (rw [hji54]; exact H') | (rw [hji44]; exact H') | (rw [hji11]; exact H')), ⟨by have := HK1.out; have := HK2.out; have := HK3.out; have := HK4.out; have := HK5.out; omega⟩, ⟨by (with_reducible repeat (first | apply Kd.R_alloc | apply Kd.R_drewN | apply Kd.R_drew)); exact HO_10.out⟩, ⟨by (with_reducible repeat (first | apply Kd.R_alloc | apply Kd.R_drewN | apply Kd.R_drew)); exact HO_15.out⟩, ⟨by (with_reducible repeat (first | apply Kd.R_alloc | apply Kd.R_drewN | apply Kd.R_drew)); exact HO_65.out⟩, ⟨by repeat (first | (with_reducible first | exact HB.out | apply below_alloc | apply pw_below_drewN | apply below_drew1) | exact HB.out)⟩⟩
                 ·rw [if_neg c33] at H
                  exact absurd H (by simp)
                ·rw [if_neg c32] at H
                 exact absurd H (by simp)
               ·rw [if_neg c31] at H
                have c31b0 : decide (x67_4 < (x10_2.length : Int)) = false := decide_eq_false c31
                clear c31
                have H' := Aside0.mk H
                clear H
                go_wp2
                go_roundg k4
                case measure => have := HK1.out; have := HK2.out; have := HK3.out; have := HK4.out; omega
                case rel => exact ⟨(x15_4), (wrap64 (x45_2 + 1)), (by first | rfl | (simp; done) | (simp [*]; done)), (by first | exact H' | (rw [hji54]; exact H') | (rw [hji44]; exact H') | (rw [hji11]; exact H')), ⟨by have := HK1.out; have := HK2.out; have := HK3.out; have := HK4.out; omega⟩, ⟨by (with_reducible repeat (first | apply Kd.R_alloc | apply Kd.R_drewN | apply Kd.R_drew)); exact Kd.R_mono HO_15.out (fun _ hk => trivial)⟩, ⟨by repeat (first | (with_reducible first | exact HB.out | apply below_alloc | apply pw_below_drewN | apply below_drew1) | exact HB.out)⟩⟩
        ·rw [if_neg c22] at H
         have c22b0 : decide (x45_2 < a2) = false := decide_eq_false c22
         clear c22
         replace H := Option.bind_eq_some_iff.mp H
         obtain ⟨t185, A590, H⟩ := H
         replace H : (some t185) = some r := H
         have A59 := Aside0.mk A590
         clear A590
         obtain rfl := Option.some.inj H
         obtain ⟨Ao60, co60, eo60⟩ := Kd.R_slice HO_10.out
         subst eo60
         go_wp2_with (first | ((with_reducible refine gate_callee (f := 39) rfl ?_); refine goesL_ (some 127) rfl rfl Try.func39 (by kernel_rfl) rfl #[.slice Ao60 x10_2.length co60] rfl (by (try simp only [List.map_toArray, List.map_cons, List.map_nil]); first | done | rfl | (simp only [List.length_drop, List.length_take]; rfl)) ?_; (with_reducible refine (slices_Max.calls _ _ x10_2 t185 _ ?side1 ?side2 A59.out).mono ?_); (case side1 => repeat (first | exact (Kd.R_reads' HO_10.out).2.2 | (with_reducible refine Kd.C_alloc ?_ _) | (with_reducible refine Kd.C_drewN ?_ _) | (with_reducible refine Kd.C_drew ?_))); (case side2 => exact (Kd.R_reads' HO_10.out).2.1); rintro e w' ⟨rfl, ⟨nd, rfl⟩⟩; refine ⟨_, rfl, ?_⟩))
         go_ret
         exact ⟨by first | rfl | (simp [errW_none, errW_some] <;> rfl) | (simp only [← hji11]; first | rfl | (simp [errW_none, errW_some] <;> rfl)) | (simp [*, errW_none, errW_some] <;> rfl), by repeat (first | (with_reducible first | exact HB.out | apply below_alloc | apply pw_below_drewN | apply below_drew1) | exact HB.out)⟩
  ·rw [if_neg c6] at H
   exact absurd H (by simp)
 ·rw [if_neg c5] at H
  exact absurd H (by simp)

end Go.Proofs.Ytokeeplkbgdokaa.Pq

/- What the program's search computes: the greatest worth of a plan that begins as told. -/
namespace Go.Proofs.Ytokeeplkbgdokaa
open Go Go.RowKit Go.Proofs.YtokeeplkbgdokaaW.PrintWords Go.Proofs.YtokeeplkbgdokaaW.PrintMore Go.Proofs.Ytokeeplkbgdokaa.Pq
set_option linter.unusedVariables false

/-- It comes to a value of which something holds. -/
def EvP {α : Type} (g : Nat → Option α) (P : α → Prop) : Prop := ∃ r, Ev g r ∧ P r
theorem EvP.step {α : Type} {g f : Nat → Option α} {P : α → Prop} (h : ∀ k, g (k + 1) = f k) (k : EvP f P) : EvP g P := by
  obtain ⟨r, hr, hp⟩ := k
  exact ⟨r, Ev.step h hr, hp⟩
theorem EvP.now {α : Type} {P : α → Prop} (r : α) (h : P r) : EvP (fun _ => some r) P := ⟨r, Ev.now r, h⟩
theorem EvP.congr {α : Type} {g f : Nat → Option α} {P : α → Prop} (h : ∀ k, g k = f k) (k : EvP f P) : EvP g P := by
  obtain ⟨r, hr, hp⟩ := k
  exact ⟨r, Ev.congr h hr, hp⟩
theorem rd_nat (l : List Int) (i : Nat) : rd l (i : Int) = l.getD i 0 := by simp [rd]
theorem wrap_nat (i : Nat) (h : i ≤ 1000000) : wrap64 ((i : Int) + 1) = ((i + 1 : Nat) : Int) := by unfold wrap64; omega
theorem ones_f (m : Nat) (h : m < 64) : bits_OnesCount.f (IntKind.u64.wrap (m : Int)) = some (nb6 m) := by
  have : ∀ m : Fin 64, bits_OnesCount.f (IntKind.u64.wrap (m.val : Int)) = some (nb6 m.val) := by decide +kernel
  exact this ⟨m, h⟩
theorem shr_nat (m i : Nat) (hi : i ≤ 64) : shr .i64 (m : Int) (i : Int) = (m : Int) / 2 ^ i := by
  unfold shr
  rw [Int.toNat_natCast, Nat.min_eq_left (by simpa [IntKind.bits] using hi)]
theorem impl_worth_f (x : S40) (d : Int) (h : plotOk x = true) (h0 : -1 ≤ d) (h1 : d ≤ 1000) : impl_Plot_worth.f x.f0 x.f1 x.f2 x.f3 d = some (pw x d) := by
  rw [plotOk_iff] at h
  obtain ⟨_, _, _, _, _, _, _, _⟩ := h
  have e1 : wrap64 x.f1 = x.f1 := by unfold wrap64; omega
  have e2 : wrap64 x.f2 = x.f2 := by unfold wrap64; omega
  have e3 : wrap64 x.f3 = x.f3 := by unfold wrap64; omega
  have e0 : wrap64 x.f0 = x.f0 := by unfold wrap64; omega
  have e4 : wrap64 (d - x.f1) = d - x.f1 := by unfold wrap64; omega
  unfold impl_Plot_worth.f pw
  rw [e1, e4, e2, pl_within]
  simp only [Option.bind_some]
  by_cases hs : 0 ≤ d - x.f1 ∧ d - x.f1 ≤ x.f2
  · obtain ⟨g0, g1⟩ := mul_late x.f3 (d - x.f1) (by omega) (by omega) hs.1 (by omega)
    have e5 : wrap64 (x.f3 * (d - x.f1)) = x.f3 * (d - x.f1) := by unfold wrap64; omega
    have e6 : wrap64 (x.f0 - x.f3 * (d - x.f1)) = x.f0 - x.f3 * (d - x.f1) := by unfold wrap64; omega
    rw [decide_eq_true hs, if_pos rfl, if_pos hs, e3, e5, e0, e6]
    unfold mx
    by_cases hp : x.f0 - x.f3 * (d - x.f1) > 0
    · rw [if_pos hp]
    · rw [if_neg hp]
  · rw [decide_eq_false hs, if_neg (by simp), if_neg hs]
theorem fsum_bound (rest) (h : ∀ x ∈ rest, plotOk x = true) (r : Nat → Int) (n : Nat) : 0 ≤ fsum rest r n ∧ fsum rest r n ≤ 1000 * n := by
  induction n with
  | zero => exact ⟨Int.le_refl 0, by simp [fsum]⟩
  | succ i ih =>
    have h1 := pw_nonneg (rest.getD i z40) (r i)
    have h2 := pw_le (rest.getD i z40) (r i) (getD_ok rest h i)
    rw [fsum]
    split <;> omega
/-- Just the plots of a set are taken. -/
def Exact (n s : Nat) (r : Nat → Int) : Prop := ∀ i, i < n → s.testBit i = decide (0 ≤ r i)
section
variable (free : List S40) (lf : Nat → Int) (base : Int)
/-- What a table's number says of a set before a day. -/
def Good (d s : Nat) (v : Int) : Prop :=
  (∀ r, Adm lf free.length 0 d r → Exact free.length s r → base + fsum free r free.length ≤ v) ∧
  (0 ≤ v → ∃ r, Adm lf free.length 0 d r ∧ Exact free.length s r ∧ base + fsum free r free.length = v)
def SG (d : Nat) (sums : List Int) : Prop := sums.length = 2 ^ free.length ∧ ∀ s, s < 2 ^ free.length → Good free lf base d s (sums.getD s 0)
/-- Two sets that may be put together on a day. -/
def Pair (sums : List Int) (d s m : Nat) : Prop := s < 2 ^ free.length ∧ m < 2 ^ free.length ∧ 0 ≤ sums.getD s 0 ∧ s &&& m = 0 ∧ nb6 m ≤ lf d
def NX (sums : List Int) (d a b : Nat) (next : List Int) : Prop :=
  next.length = 2 ^ free.length ∧ ∀ t, t < 2 ^ free.length →
    (∀ s m, Pair free lf sums d s m → (s < a ∨ (s = a ∧ m < b)) → s ||| m = t → sums.getD s 0 + bitW free d m free.length ≤ next.getD t 0) ∧
    (0 ≤ next.getD t 0 → (0 ≤ sums.getD t 0 ∧ next.getD t 0 = sums.getD t 0) ∨ ∃ s m, Pair free lf sums d s m ∧ s ||| m = t ∧ next.getD t 0 = sums.getD s 0 + bitW free d m free.length)
variable (hok : ∀ x ∈ free, plotOk x = true) (hl : free.length ≤ 6)
include hok hl
omit hok in
theorem pow_le6 : 2 ^ free.length ≤ 64 := by
  have := Nat.pow_le_pow_right (show 0 < 2 by decide) hl
  exact this
theorem bitW_b (d : Int) (m i : Nat) (hi : i ≤ free.length) : 0 ≤ bitW free d m i ∧ bitW free d m i ≤ 6000 := by
  have := bitW_bound free hok d m i
  omega
/-- The innermost loop: the worth of the plots of a set on a day. -/
theorem most_l5 {P : Int → Prop} (x1 : Int) (x3 sums : List Int) (day : Nat) (x12 : Int) (next : List Int) (a : Nat) (v : Int) (m : Nat) (x44 x45 : Int) (x65 : List Int) (x66 x67 x75 x76 : Int)
    (hday : day ≤ 20) (hm : m < 2 ^ free.length) (ha : a < 2 ^ free.length) (hv : 0 ≤ v) (hv2 : v ≤ 100000) (hn : next.length = 2 ^ free.length)
    (hk : EvP (fun k => impl_most.l4 k x1 x3 free sums day x12 (next.set (a ||| m) (mx (next.getD (a ||| m) 0) (v + bitW free day m free.length))) a v x44 x45 x65 x66 x67 x75 (wrap64 (x76 + 1))) P) (j : Nat) : ∀ i, i ≤ free.length → free.length - i = j →
    EvP (fun k => impl_most.l5 k x1 x3 free sums day x12 next a v m (v + bitW free day m i) x44 x45 x65 x66 x67 x75 x76 free (free.length : Int) (i : Int)) P := by
  have hp := pow_le6 free hl
  have hor : a ||| m < 2 ^ free.length := Nat.or_lt_two_pow ha hm
  induction j with
  | zero =>
    intro i hi hj
    obtain rfl : i = free.length := by omega
    refine EvP.step (fun k => ?_) hk
    rw [impl_most.l5, if_neg (by omega), bits_orN a m (by omega) (by omega), if_pos (by omega), if_pos (by omega), Int.toNat_natCast, rd_nat]
  | succ j ih =>
    intro i hi hj
    have hlt : i < free.length := by omega
    have hmem : free[i] ∈ free := List.getElem_mem hlt
    refine EvP.step (fun k => ?_) (ih (i + 1) (by omega) (by omega))
    have hb := bitW_b free hok hl (day : Int) m i (by omega)
    have hb2 := bitW_b free hok hl (day : Int) m (i + 1) (by omega)
    rw [impl_most.l5, if_pos (by omega), if_pos (by omega), if_pos (by omega), shr_nat m i (by omega), bit_ask m i (by omega), pl_rd free i hlt, pl_next i free.length hlt (by omega)]
    rw [bitW] at hb2 ⊢
    rw [pl_getD free _ hlt] at hb2 ⊢
    cases hbit : m.testBit i with
    | true =>
      rw [hbit] at hb2
      simp only [if_true] at hb2 ⊢
      rw [impl_worth_f _ _ (hok _ hmem) (by omega) (by omega)]
      simp only [Option.bind_some]
      have e : wrap64 (v + bitW free day m i + pw free[i] day) = v + (bitW free day m i + pw free[i] day) := by unfold wrap64; omega
      rw [e]
    | false =>
      simp
omit hok hl in
theorem nx_skip {sums : List Int} {d a b : Nat} {next : List Int} (h : NX free lf sums d a b next) (hp : ¬ Pair free lf sums d a b) : NX free lf sums d a (b + 1) next := by
  refine ⟨h.1, fun t ht => ⟨fun s m hpm hlt ht2 => ?_, (h.2 t ht).2⟩⟩
  refine (h.2 t ht).1 s m hpm ?_ ht2
  rcases hlt with hlt | ⟨rfl, hlt⟩
  · exact .inl hlt
  · right
    refine ⟨rfl, ?_⟩
    rcases Nat.lt_succ_iff_lt_or_eq.1 hlt with h1 | rfl
    · exact h1
    · exact absurd hpm hp
theorem nx_put {sums : List Int} {d a b : Nat} {next : List Int} (h : NX free lf sums d a b next) (hp : Pair free lf sums d a b) : NX free lf sums d a (b + 1) (next.set (a ||| b) (mx (next.getD (a ||| b) 0) (sums.getD a 0 + bitW free d b free.length))) := by
  have hor : a ||| b < 2 ^ free.length := Nat.or_lt_two_pow hp.1 hp.2.1
  have hw := bitW_b free hok hl (d : Int) b free.length (Nat.le_refl _)
  have hv := hp.2.2.1
  have hmx1 : next.getD (a ||| b) 0 ≤ mx (next.getD (a ||| b) 0) (sums.getD a 0 + bitW free d b free.length) := by unfold mx; split <;> omega
  have hmx2 : sums.getD a 0 + bitW free d b free.length ≤ mx (next.getD (a ||| b) 0) (sums.getD a 0 + bitW free d b free.length) := by unfold mx; split <;> omega
  refine ⟨by rw [List.length_set]; exact h.1, fun t ht => ?_⟩
  obtain ⟨h1, h2⟩ := h.2 t ht
  have hset : (next.set (a ||| b) (mx (next.getD (a ||| b) 0) (sums.getD a 0 + bitW free d b free.length))).getD t 0 = if a ||| b = t then mx (next.getD (a ||| b) 0) (sums.getD a 0 + bitW free d b free.length) else next.getD t 0 := by
    rw [List.getD_eq_getElem?_getD, List.getD_eq_getElem?_getD, List.getElem?_set]
    have := h.1
    by_cases e : a ||| b = t
    · rw [if_pos e, if_pos (by omega), if_pos e]; rfl
    · rw [if_neg e, if_neg e]; rfl
  rw [hset]
  by_cases e : a ||| b = t
  · subst e
    rw [if_pos rfl]
    refine ⟨fun s m hpm hlt ht2 => ?_, fun _ => ?_⟩
    · by_cases hq : s = a ∧ m = b
      · obtain ⟨rfl, rfl⟩ := hq; exact hmx2
      · refine Int.le_trans (h1 s m hpm ?_ ht2) hmx1
        rcases hlt with hlt | ⟨e1, hlt⟩
        · exact .inl hlt
        · right; refine ⟨e1, ?_⟩
          rcases Nat.lt_succ_iff_lt_or_eq.1 hlt with h3 | h3
          · exact h3
          · exact absurd ⟨e1, h3⟩ hq
    · unfold mx
      split
      · exact .inr ⟨a, b, hp, rfl, rfl⟩
      · exact h2 (by omega)
  · rw [if_neg e]
    refine ⟨fun s m hpm hlt ht2 => ?_, h2⟩
    refine h1 s m hpm ?_ ht2
    rcases hlt with hlt | ⟨e1, hlt⟩
    · exact .inl hlt
    · right; refine ⟨e1, ?_⟩
      rcases Nat.lt_succ_iff_lt_or_eq.1 hlt with h3 | h3
      · exact h3
      · exact absurd (by rw [← e1, ← h3]; exact ht2) e
omit hok hl in
theorem nx_row {sums : List Int} {d a : Nat} {next : List Int} (h : NX free lf sums d a (2 ^ free.length) next) : NX free lf sums d (a + 1) 0 next := by
  refine ⟨h.1, fun t ht => ⟨fun s m hpm hlt ht2 => ?_, (h.2 t ht).2⟩⟩
  refine (h.2 t ht).1 s m hpm ?_ ht2
  rcases hlt with hlt | ⟨_, hlt⟩
  · rcases Nat.lt_succ_iff_lt_or_eq.1 hlt with h1 | rfl
    · exact .inl h1
    · exact .inr ⟨rfl, hpm.2.1⟩
  · omega
/-- All sets that may be added to one. -/
theorem most_l4 {P : Int → Prop} (x1 : Int) (x3 sums : List Int) (d : Nat) (a : Nat) (x44 x45 : Int) (x65 : List Int) (x66 x67 : Int)
    (hday : d ≤ 20) (ha : a < 2 ^ free.length) (hv : 0 ≤ sums.getD a 0) (hv2 : sums.getD a 0 ≤ 100000) (hs : sums.length = 2 ^ free.length)
    (hk : ∀ next, NX free lf sums d a (2 ^ free.length) next → EvP (fun k => impl_most.l3 k x1 x3 free sums d (lf d) next x44 x45 x65 x66 (wrap64 (x67 + 1))) P) (j : Nat) : ∀ b next, b ≤ 2 ^ free.length → 2 ^ free.length - b = j → NX free lf sums d a b next →
    EvP (fun k => impl_most.l4 k x1 x3 free sums d (lf d) next a (sums.getD a 0) x44 x45 x65 x66 x67 (sums.length : Int) (b : Int)) P := by
  have hp := pow_le6 free hl
  induction j with
  | zero =>
    intro b next hb hj hnx
    obtain rfl : b = 2 ^ free.length := by omega
    refine EvP.step (fun k => ?_) (hk next hnx)
    rw [impl_most.l4, if_neg (by omega)]
  | succ j ih =>
    intro b next hb hj hnx
    have hlt : b < 2 ^ free.length := by omega
    have hstep : ∀ k, impl_most.l4 (k + 1) x1 x3 free sums d (lf d) next a (sums.getD a 0) x44 x45 x65 x66 x67 (sums.length : Int) (b : Int) = impl_most.j5 k x1 x3 free sums d (lf d) next a (sums.getD a 0) b x44 x45 x65 x66 x67 (sums.length : Int) (b : Int) (decide (¬ (a &&& b = 0 ∧ nb6 b ≤ lf d))) := by
      intro k
      rw [impl_most.l4, if_pos (by omega), bits_andN a b (by omega) (by omega)]
      by_cases h1 : a &&& b = 0
      · rw [if_pos (by omega), ones_f b (by omega)]
        simp only [Option.bind_some]
        congr 1
        rw [decide_eq_decide]
        constructor
        · intro h2 h3; omega
        · intro h2
          have := fun h3 => h2 ⟨h1, h3⟩
          omega
      · rw [if_neg (by omega)]
        congr 1
        symm
        rw [decide_eq_true_iff]
        exact fun h2 => h1 h2.1
    refine EvP.step hstep ?_
    by_cases hc : a &&& b = 0 ∧ nb6 b ≤ lf d
    · have hpair : Pair free lf sums d a b := ⟨ha, hlt, hv, hc.1, hc.2⟩
      rw [decide_eq_false (by simpa using hc)]
      have hput := nx_put free lf hok hl hnx hpair
      have h5 := most_l5 free hok hl x1 x3 sums d (lf d) next a (sums.getD a 0) b x44 x45 x65 x66 x67 (sums.length : Int) (b : Int) hday hlt ha hv hv2 hnx.1 (P := P) (by
        rw [wrap_nat b (by omega)]
        exact ih (b + 1) _ (by omega) (by omega) hput) free.length 0 (Nat.zero_le _) (by omega)
      refine EvP.step (fun k => ?_) h5
      rw [impl_most.j5, if_neg (by simp), bitW, Int.add_zero]
      rfl
    · rw [decide_eq_true hc]
      refine EvP.step (fun k => ?_) (ih (b + 1) next (by omega) (by omega) (nx_skip free lf hnx (fun hpm => hc ⟨hpm.2.2.2.1, hpm.2.2.2.2⟩)))
      rw [impl_most.j5, if_pos rfl, wrap_nat b (by omega)]
omit hok hl in
theorem exact_testBit {n s : Nat} {r : Nat → Int} (h : Exact n s r) {i : Nat} (hi : i < n) : s.testBit i = decide (0 ≤ r i) := h i hi
/-- A day more. -/
theorem sg_step {d : Nat} {sums next : List Int} (hlf : 0 ≤ lf d) (hb : 0 ≤ base) (hg : SG free lf base d sums) (hn : NX free lf sums d (2 ^ free.length) 0 next) : SG free lf base (d + 1) next := by
  have hpw := pow_le6 free hl
  refine ⟨hn.1, fun t ht => ?_⟩
  obtain ⟨hU, hA⟩ := hn.2 t ht
  constructor
  · intro r hr he
    obtain ⟨m, hm⟩ : ∃ m, m = maskOf (fun i => decide (r i = d)) free.length := ⟨_, rfl⟩
    have hmb : ∀ i, i < free.length → m.testBit i = decide (r i = d) := by
      intro i hi
      rw [hm, maskOf_testBit]
      simp [hi]
    have hml : m < 2 ^ free.length := by rw [hm]; exact maskOf_lt _ _
    obtain ⟨s, hsd⟩ : ∃ s, s = ndiff t m := ⟨_, rfl⟩
    have hsl : s < 2 ^ free.length := by rw [hsd]; exact Nat.lt_of_le_of_lt (ndiff_le t m) ht
    have hbig : ∀ i, free.length ≤ i → t.testBit i = false := fun i hi => Nat.testBit_lt_two_pow (Nat.lt_of_lt_of_le ht (Nat.pow_le_pow_right (by decide) hi))
    have hbigm : ∀ i, free.length ≤ i → m.testBit i = false := fun i hi => Nat.testBit_lt_two_pow (Nat.lt_of_lt_of_le hml (Nat.pow_le_pow_right (by decide) hi))
    have hsm : s &&& m = 0 := by
      apply Nat.eq_of_testBit_eq
      intro i
      rw [Nat.testBit_and, hsd, ndiff_testBit, Nat.zero_testBit]
      cases t.testBit i <;> cases m.testBit i <;> rfl
    have hor : s ||| m = t := by
      apply Nat.eq_of_testBit_eq
      intro i
      rw [Nat.testBit_or, hsd, ndiff_testBit]
      by_cases hi : i < free.length
      · rw [hmb i hi, he i hi]
        by_cases h : r i = d
        · have : 0 ≤ r i := by omega
          simp [h]
        · simp [h]
      · rw [hbig i (by omega), hbigm i (by omega)]; rfl
    have hsp := fsum_split free d (by omega) m r (dropDay d r) free.length (fun i hi => by
      rw [hmb i hi]
      unfold dropDay
      constructor
      · intro h
        have h := of_decide_eq_true h
        exact ⟨h, if_pos h⟩
      · intro h
        have h := of_decide_eq_false h
        rw [if_neg h])
    have hAd : Adm lf free.length 0 d (dropDay d r) := by
      constructor
      · intro i hi
        unfold dropDay
        by_cases h : r i = d
        · rw [if_pos h]; exact .inl rfl
        · rw [if_neg h]
          rcases hr.1 i hi with h1 | h1
          · exact .inl h1
          · right; omega
      · intro e h1 h2
        rw [cnt_congr (dropDay d r) r e free.length (fun i hi => by
          unfold dropDay
          by_cases h : r i = d
          · rw [if_pos h]; constructor <;> intro h3 <;> omega
          · rw [if_neg h])]
        exact hr.2 e h1 (by omega)
    have hEx : Exact free.length s (dropDay d r) := by
      intro i hi
      rw [hsd, ndiff_testBit, hmb i hi, he i hi]
      unfold dropDay
      by_cases h : r i = d
      · simp [h]
      · simp [h]
    have hge := (hg.2 s hsl).1 _ hAd hEx
    have hnn := (fsum_bound free hok (dropDay d r) free.length).1
    have hcn : nb6 m ≤ lf d := by
      unfold nb6
      rw [nbits_lt m free.length 6 hml hl, nbits_day r d m free.length hmb]
      exact hr.2 d (Nat.zero_le _) (by omega)
    have := hU s m ⟨hsl, hml, by omega, hsm, hcn⟩ (.inl hsl) hor
    rw [hsp]
    omega
  · intro h0
    rcases hA h0 with ⟨h1, h2⟩ | ⟨s, m, hp, h1, h2⟩
    · obtain ⟨r, g1, g2, g3⟩ := (hg.2 t ht).2 h1
      refine ⟨r, ⟨fun i hi => ?_, fun e e1 e2 => ?_⟩, g2, by rw [h2]; exact g3⟩
      · rcases g1.1 i hi with g | g
        · exact .inl g
        · right; omega
      · by_cases he : e = d
        · rw [he, cnt_zero_of r d free.length (fun i hi => by rcases g1.1 i hi with g | g <;> omega)]
          exact hlf
        · exact g1.2 e e1 (by omega)
    · obtain ⟨hsl, hml, hv, hsm, hcn⟩ := hp
      obtain ⟨r, g1, g2, g3⟩ := (hg.2 s hsl).2 hv
      have hbit : ∀ i, m.testBit i = true → s.testBit i = false := by
        intro i hb
        have := congrArg (·.testBit i) hsm
        simp only [Nat.testBit_and, hb, Nat.zero_testBit, Bool.and_true] at this
        exact this
      have hoff : ∀ i, i < free.length → m.testBit i = true → r i = -1 := by
        intro i hi hb
        have := g2 i hi
        rw [hbit i hb] at this
        have := of_decide_eq_false this.symm
        rcases g1.1 i hi with g | g
        · exact g
        · omega
      have hsp := fsum_split free d (by omega) m (moveTo m d r) r free.length (fun i hi => by
        unfold moveTo
        constructor
        · intro h
          rw [if_pos h]
          exact ⟨rfl, hoff i hi h⟩
        · intro h
          rw [h]
          simp)
      refine ⟨moveTo m d r, ⟨fun i hi => ?_, fun e e1 e2 => ?_⟩, fun i hi => ?_, by rw [hsp, h2, ← g3]; omega⟩
      · unfold moveTo
        split
        · right; omega
        · rcases g1.1 i hi with g | g
          · exact .inl g
          · right; omega
      · by_cases he : e = d
        · subst he
          have hb : ∀ i, i < free.length → m.testBit i = decide (moveTo m e r i = e) := by
            intro i hi
            unfold moveTo
            cases hb : m.testBit i with
            | true => simp
            | false =>
              have : r i ≠ e := by rcases g1.1 i hi with g | g <;> omega
              simp [this]
          rw [← nbits_day (moveTo m e r) e m free.length hb, ← nbits_lt m free.length 6 hml hl]
          exact hcn
        · have hc := cnt_congr (moveTo m d r) r e free.length (fun i hi => by
            unfold moveTo
            cases hb : m.testBit i with
            | true => rw [hoff i hi hb]; simp only [if_true]; constructor <;> intro h <;> omega
            | false => simp)
          rw [hc]
          exact g1.2 e e1 (by omega)
      · rw [← h1, Nat.testBit_or, g2 i hi]
        unfold moveTo
        cases hb : m.testBit i with
        | true =>
          have : (0 : Int) ≤ d := by omega
          simp
        | false => simp
/-- All sets of a day. -/
theorem most_l3 {P : Int → Prop} (x1 : Int) (x3 sums : List Int) (d : Nat) (x44 x45 : Int)
    (hday : d ≤ 20) (hb2 : base ≤ 6000) (hg : SG free lf base d sums)
    (hk : ∀ next, NX free lf sums d (2 ^ free.length) 0 next → EvP (fun k => impl_most.l1 k x1 x3 free next x44 (wrap64 (x45 + 1))) P) (j : Nat) : ∀ a next, a ≤ 2 ^ free.length → 2 ^ free.length - a = j → NX free lf sums d a 0 next →
    EvP (fun k => impl_most.l3 k x1 x3 free sums d (lf d) next x44 x45 sums (sums.length : Int) (a : Int)) P := by
  have hp := pow_le6 free hl
  have hs := hg.1
  induction j with
  | zero =>
    intro a next ha hj hnx
    obtain rfl : a = 2 ^ free.length := by omega
    refine EvP.step (fun k => ?_) (hk next hnx)
    rw [impl_most.l3, if_neg (by omega)]
  | succ j ih =>
    intro a next ha hj hnx
    have hlt : a < 2 ^ free.length := by omega
    by_cases hneg : sums.getD a 0 < 0
    · refine EvP.step (fun k => ?_) (ih (a + 1) next (by omega) (by omega) ?_)
      · rw [impl_most.l3, if_pos (by omega), if_pos (by omega), if_pos (by omega), rd_nat, if_pos hneg, wrap_nat a (by omega)]
      · refine ⟨hnx.1, fun t ht => ⟨fun s m hpm hlt ht2 => ?_, (hnx.2 t ht).2⟩⟩
        refine (hnx.2 t ht).1 s m hpm ?_ ht2
        rcases hlt with hlt | ⟨_, hlt⟩
        · rcases Nat.lt_succ_iff_lt_or_eq.1 hlt with h1 | rfl
          · exact .inl h1
          · have := hpm.2.2.1; omega
        · omega
    · have hv : 0 ≤ sums.getD a 0 := by omega
      have hv2 : sums.getD a 0 ≤ 100000 := by
        obtain ⟨r, _, _, e⟩ := (hg.2 a hlt).2 hv
        have := fsum_bound free hok r free.length
        omega
      have h4 := most_l4 free lf hok hl (P := P) x1 x3 sums d a x44 x45 sums (sums.length : Int) (a : Int) hday hlt hv hv2 hs (fun next' hn' => by
        rw [wrap_nat a (by omega)]
        exact ih (a + 1) next' (by omega) (by omega) (nx_row free lf hn')) (2 ^ free.length) 0 next (Nat.zero_le _) (by omega) hnx
      refine EvP.step (fun k => ?_) h4
      rw [impl_most.l3, if_pos (by omega), if_pos (by omega), if_pos (by omega), rd_nat, if_neg hneg]
      rfl
end
theorem maxOf_spec (l : List Int) (h : l ≠ []) : Lib.maxOf l ∈ l ∧ ∀ x ∈ l, x ≤ Lib.maxOf l := by
  have key : ∀ (l : List Int) (a : Int), (l.foldl max a = a ∨ l.foldl max a ∈ l) ∧ a ≤ l.foldl max a ∧ ∀ x ∈ l, x ≤ l.foldl max a := by
    intro l
    induction l with
    | nil => intro a; simp
    | cons b l ih =>
      intro a
      obtain ⟨h1, h2, h3⟩ := ih (max a b)
      simp only [List.foldl_cons]
      refine ⟨?_, by omega, fun x hx => ?_⟩
      · rcases h1 with h1 | h1
        · rw [h1]
          rcases Int.le_total a b with h4 | h4
          · right; rw [Int.max_eq_right h4]; simp
          · left; exact Int.max_eq_left h4
        · right; simp [h1]
      · rcases List.mem_cons.1 hx with rfl | hx
        · omega
        · exact h3 x hx
  cases l with
  | nil => exact absurd rfl h
  | cons b l =>
    obtain ⟨h1, h2, h3⟩ := key (b :: l) b
    unfold Lib.maxOf
    simp only [List.headD_cons]
    refine ⟨?_, h3⟩
    rcases h1 with h1 | h1
    · rw [h1]; simp
    · exact h1
section
variable (free : List S40) (h : Int) (q : List Int) (base : Int)
/-- How many hands are left on a day. -/
def leftOn (d : Nat) : Int := h - dayCount q d
/-- What the search answers. -/
def MostOk (D : Nat) (r : Int) : Prop :=
  ((∀ d, d < D → 0 ≤ leftOn h q d) → (∀ rr, Adm (leftOn h q) free.length 0 D rr → base + fsum free rr free.length ≤ r) ∧ ∃ rr, Adm (leftOn h q) free.length 0 D rr ∧ base + fsum free rr free.length = r) ∧
  (¬ (∀ d, d < D → 0 ≤ leftOn h q d) → r = -1)
variable (hok : ∀ x ∈ free, plotOk x = true) (hl : free.length ≤ 6) (hh : 0 ≤ h) (hh2 : h ≤ 3) (hq : q.length ≤ 6) (hb : 0 ≤ base) (hb2 : base ≤ 6000)
include hok hl hh hh2 hq hb hb2
omit hok hb hb2 in
theorem most_l2 {P : Int → Prop} (sums : List Int) (d : Nat) (x44 : Int) (hday : d ≤ 20) (hs : sums.length = 2 ^ free.length)
    (hneg : leftOn h q d < 0 → P (-1)) (hpos : 0 ≤ leftOn h q d → EvP (fun k => impl_most.l3 k h q free sums d (leftOn h q d) sums x44 d sums (sums.length : Int) 0) P) (j : Nat) : ∀ i, i ≤ q.length → q.length - i = j →
    EvP (fun k => impl_most.l2 k h q free sums d (h - dayCount (q.take i) d) x44 d q (q.length : Int) (i : Int)) P := by
  have hp := pow_le6 free hl
  induction j with
  | zero =>
    intro i hi hj
    obtain rfl : i = q.length := by omega
    rw [List.take_length]
    by_cases hn : leftOn h q d < 0
    · refine EvP.step (fun k => ?_) (EvP.now (-1) (hneg hn))
      unfold leftOn at hn
      rw [impl_most.l2, if_neg (by omega), if_pos hn]
    · refine EvP.step (fun k => ?_) (hpos (by omega))
      unfold leftOn at hn ⊢
      rw [impl_most.l2, if_neg (by omega), if_neg hn]
      unfold slices_Clone.f
      rw [if_pos (by omega)]
      rfl
  | succ j ih =>
    intro i hi hj
    have hlt : i < q.length := by omega
    have hc : (q.take i).count (d : Int) ≤ i := by
      have : (q.take i).count (d : Int) ≤ (q.take i).length := List.count_le_length
      rw [List.length_take] at this
      omega
    have hcn : dayCount (q.take (i + 1)) d = dayCount (q.take i) d + if q[i] = (d : Int) then 1 else 0 := by
      unfold dayCount
      rw [List.take_succ_eq_append_getElem hlt, List.count_append, List.count_singleton]
      by_cases e : q[i] = (d : Int)
      · simp [e]
      · simp [e]
    refine EvP.step (fun k => ?_) (ih (i + 1) (by omega) (by omega))
    have er : rd q (i : Int) = q[i] := by simp [rd, hlt]
    rw [impl_most.l2, if_pos (by omega), if_pos (by omega), if_pos (by omega), er, wrap_nat i (by omega), hcn]
    by_cases e : q[i] = (d : Int)
    · rw [if_pos e, if_pos e]
      have : wrap64 (h - dayCount (q.take i) d - 1) = h - (dayCount (q.take i) d + 1) := by
        unfold dayCount wrap64
        omega
      rw [this]
    · rw [if_neg e, if_neg e, Int.add_zero]
theorem most_l1 (D : Nat) (hD : D ≤ 20) (j : Nat) : ∀ d sums, d ≤ D → D - d = j → SG free (leftOn h q) base d sums → (∀ e, e < d → 0 ≤ leftOn h q e) →
    EvP (fun k => impl_most.l1 k h q free sums D (d : Int)) (MostOk free h q base D) := by
  have hp := pow_le6 free hl
  induction j with
  | zero =>
    intro d sums hd hj hg hf
    obtain rfl : d = D := by omega
    have hs := hg.1
    have hne : sums ≠ [] := by
      intro e
      rw [e] at hs
      have := Nat.two_pow_pos free.length
      simp at hs
      omega
    obtain ⟨hm1, hm2⟩ := maxOf_spec sums hne
    have hpos : 0 < sums.length := by rw [hs]; exact Nat.two_pow_pos _
    refine EvP.step (f := fun _ => some (Lib.maxOf sums)) (fun k => ?_) (EvP.now _ ?_)
    · rw [impl_most.l1, if_neg (by omega)]
      unfold slices_Max.f
      rw [if_pos ⟨hpos, by omega⟩]
      rfl
    · refine ⟨fun _ => ?_, fun hn => absurd hf hn⟩
      have hall : ∀ s, s < 2 ^ free.length → sums.getD s 0 ≤ Lib.maxOf sums := by
        intro s hs2
        rw [pl_getD sums _ (by omega)]
        exact hm2 _ (List.getElem_mem _)
      constructor
      · intro rr hr
        obtain ⟨s, hsd⟩ : ∃ s, s = maskOf (fun i => decide (0 ≤ rr i)) free.length := ⟨_, rfl⟩
        have hsl : s < 2 ^ free.length := by rw [hsd]; exact maskOf_lt _ _
        have he : Exact free.length s rr := by
          intro i hi
          rw [hsd, maskOf_testBit]
          simp [hi]
        exact Int.le_trans ((hg.2 s hsl).1 rr hr he) (hall s hsl)
      · have h0 : 0 ≤ Lib.maxOf sums := by
          have hA : Adm (leftOn h q) free.length 0 d (fun _ => -1) := by
            refine ⟨fun _ _ => .inl rfl, fun e _ e2 => ?_⟩
            rw [cnt_zero_of _ _ _ (fun i _ => by omega)]
            exact hf e e2
          have hE : Exact free.length 0 (fun _ => -1) := by intro i _; simp
          have h1 := (hg.2 0 (Nat.two_pow_pos _)).1 _ hA hE
          have h2 := (fsum_bound free hok (fun _ => -1) free.length).1
          have h3 := hall 0 (Nat.two_pow_pos _)
          omega
        obtain ⟨s, hsl, he⟩ := List.mem_iff_getElem.1 hm1
        rw [hs] at hsl
        have hg2 := (hg.2 s hsl).2
        rw [pl_getD sums _ (by omega), he] at hg2
        obtain ⟨r, g1, _, g3⟩ := hg2 h0
        exact ⟨r, g1, g3⟩
  | succ j ih =>
    intro d sums hd hj hg hf
    have hs := hg.1
    have h2 := most_l2 free h q hl hh hh2 hq (P := MostOk free h q base D) sums d (D : Int) (by omega) hs (fun hn => by
      refine ⟨fun hf2 => ?_, fun _ => rfl⟩
      have := hf2 d (by omega)
      omega) (fun hpz => by
      refine most_l3 free (leftOn h q) base hok hl h q sums d (D : Int) (d : Int) (by omega) hb2 hg (fun next hn => ?_) (2 ^ free.length) 0 sums (Nat.zero_le _) (by omega) ?_
      · rw [wrap_nat d (by omega)]
        refine ih (d + 1) next (by omega) (by omega) (sg_step free (leftOn h q) base hok hl hpz hb hg hn) (fun e he => ?_)
        rcases Nat.lt_succ_iff_lt_or_eq.1 he with h1 | rfl
        · exact hf e h1
        · exact hpz
      · exact ⟨hs, fun t ht => ⟨fun s m _ hlt _ => by rcases hlt with hlt | ⟨_, hlt⟩ <;> omega, fun h0 => .inl ⟨h0, rfl⟩⟩⟩) q.length 0 (Nat.zero_le _) (by omega)
    refine EvP.step (fun k => ?_) h2
    rw [impl_most.l1, if_pos (by omega), List.take_zero]
    unfold dayCount
    rw [List.count_nil]
    simp
theorem most_l0 (D : Nat) (hD : D ≤ 20) (j : Nat) : ∀ i, i ≤ 2 ^ free.length - 1 → 2 ^ free.length - 1 - i = j →
    EvP (fun k => impl_most.l0 k h D q free (base :: List.replicate i (-1)) ((2 ^ free.length - 1 : Nat) : Int) (i : Int)) (MostOk free h q base D) := by
  have hp := pow_le6 free hl
  have hp1 := Nat.two_pow_pos free.length
  induction j with
  | zero =>
    intro i hi hj
    obtain rfl : i = 2 ^ free.length - 1 := by omega
    refine EvP.step (fun k => ?_) (most_l1 free h q base hok hl hh hh2 hq hb hb2 D hD D 0 (base :: List.replicate (2 ^ free.length - 1) (-1)) (Nat.zero_le _) (by omega) ?_ (fun e he => by omega))
    · rw [impl_most.l0, if_neg (by omega)]
      rfl
    · refine ⟨by simp; omega, fun s hs => ?_⟩
      have hz : ∀ (r : Nat → Int), Adm (leftOn h q) free.length 0 0 r → (∀ i, i < free.length → r i = -1) ∧ fsum free r free.length = 0 := by
        intro r hr
        have h1 : ∀ i, i < free.length → r i = -1 := by
          intro i hi
          rcases hr.1 i hi with g | ⟨g1, g2⟩
          · exact g
          · exfalso; omega
        refine ⟨h1, ?_⟩
        have : ∀ n, n ≤ free.length → fsum free r n = 0 := by
          intro n
          induction n with
          | zero => intro _; rfl
          | succ n ih => intro hn; rw [fsum, ih (by omega), h1 n (by omega)]; rfl
        exact this _ (Nat.le_refl _)
      cases s with
      | zero =>
        refine ⟨fun r hr _ => by rw [(hz r hr).2]; simp, fun _ => ⟨fun _ => -1, ⟨fun _ _ => .inl rfl, fun e _ e2 => by omega⟩, fun i _ => by simp, ?_⟩⟩
        rw [(hz (fun _ => -1) ⟨fun _ _ => .inl rfl, fun e _ e2 => by omega⟩).2]
        simp
      | succ s =>
        have hv : (base :: List.replicate (2 ^ free.length - 1) (-1)).getD (s + 1) 0 = -1 := by
          rw [List.getD_cons_succ, List.getD_eq_getElem?_getD, List.getElem?_replicate, if_pos (by omega)]; rfl
        rw [hv]
        refine ⟨fun r hr he => ?_, fun h0 => by omega⟩
        exfalso
        have h1 := (hz r hr).1
        have : s + 1 = 0 := by
          apply Nat.eq_of_testBit_eq
          intro i
          rw [Nat.zero_testBit]
          by_cases hi : i < free.length
          · rw [he i hi, h1 i hi]; rfl
          · exact Nat.testBit_lt_two_pow (Nat.lt_of_lt_of_le hs (Nat.pow_le_pow_right (by decide) (by omega)))
        omega
  | succ j ih =>
    intro i hi hj
    refine EvP.step (fun k => ?_) (ih (i + 1) (by omega) (by omega))
    rw [impl_most.l0, if_pos (by omega), if_pos (by simp; omega), wrap_nat i (by omega)]
    congr 1
    rw [List.replicate_succ', List.cons_append]
end
/-- What each plot is worth on its day. -/
def worthsL : List S40 → List Int → List Int
  | x :: l, d :: p => (if 0 ≤ d then pw x d else 0) :: worthsL l p
  | _, _ => []
theorem worthsL_length (l : List S40) (p : List Int) (h : p.length = l.length) : (worthsL l p).length = l.length := by
  induction l generalizing p with
  | nil => cases p <;> rfl
  | cons x l ih =>
    cases p with
    | nil => simp at h
    | cons d p => simp only [worthsL, List.length_cons]; rw [ih p (by simpa using h)]
theorem worthsL_at (l : List S40) (p : List Int) (i : Nat) (h1 : i < l.length) (h2 : i < p.length) : (worthsL l p)[i]? = some (if 0 ≤ p[i] then pw l[i] p[i] else 0) := by
  induction l generalizing p i with
  | nil => simp at h1
  | cons x l ih =>
    cases p with
    | nil => simp at h2
    | cons d p =>
      cases i with
      | zero => rfl
      | succ i =>
        simp only [worthsL, List.getElem?_cons_succ, List.getElem_cons_succ]
        exact ih p i (by simpa using h1) (by simpa using h2)
theorem worthsL_sum (l : List S40) (p : List Int) : (worthsL l p).sum = planSum l p := by
  induction l generalizing p with
  | nil => cases p <;> rfl
  | cons x l ih =>
    cases p with
    | nil => rfl
    | cons d p => simp only [worthsL, planSum, List.sum_cons, ih]
theorem total_loop (l : List Int) (b : Int) (hb : ∀ x ∈ l, 0 ≤ x ∧ x ≤ 1000) (hl : l.length ≤ 1000) (j : Nat) : ∀ (k i : Nat) (s : Int), i ≤ l.length → l.length - i = j → j < k → 0 ≤ s → s ≤ 1000 * (i : Int) →
    impl_total.l0 k s l (l.length : Int) (i : Int) = some (s + (l.drop i).sum) := by
  induction j with
  | zero =>
    intro k i s h1 h2 h3 _ _
    obtain ⟨k, rfl⟩ : ∃ m, k = m + 1 := ⟨k - 1, by omega⟩
    rw [impl_total.l0, if_neg (by omega), List.drop_of_length_le (by omega)]
    simp
  | succ j ih =>
    intro k i s h1 h2 h3 h4 h5
    obtain ⟨k, rfl⟩ : ∃ m, k = m + 1 := ⟨k - 1, by omega⟩
    have hlt : i < l.length := by omega
    have hx := hb l[i] (List.getElem_mem hlt)
    have er : rd l (i : Int) = l[i] := by simp [rd, hlt]
    have e1 : wrap64 (s + l[i]) = s + l[i] := by unfold wrap64; omega
    rw [impl_total.l0, if_pos (by omega), if_pos (by omega), if_pos (by omega), er, e1, wrap_nat i (by omega), ih k (i + 1) _ (by omega) (by omega) (by omega) (by omega) (by omega), List.drop_eq_getElem_cons hlt, List.sum_cons, Int.add_assoc]
theorem total_f (l : List Int) (hb : ∀ x ∈ l, 0 ≤ x ∧ x ≤ 1000) (hl : l.length ≤ 1000) (k : Nat) (hk : l.length < k) : impl_total.f k l = some l.sum := by
  have := total_loop l 0 hb hl l.length k 0 0 (by omega) (by omega) hk (by omega) (by omega)
  simpa [impl_total.f] using this
theorem worths_loop (l : List S40) (hok : ∀ x ∈ l, plotOk x = true) (p : List Int) (hp : ∀ d ∈ p, -1 ≤ d ∧ d ≤ 19) (hl : p.length = l.length) (hn : l.length ≤ 6) (j : Nat) : ∀ (k i : Nat), i ≤ l.length → l.length - i = j → j < k →
    impl_worths.l0 k l ((worthsL l p).take i ++ List.replicate (l.length - i) 0) p (p.length : Int) (i : Int) = some (worthsL l p) := by
  have hlen := worthsL_length l p hl
  induction j with
  | zero =>
    intro k i h1 h2 h3
    obtain ⟨k, rfl⟩ : ∃ m, k = m + 1 := ⟨k - 1, by omega⟩
    obtain rfl : i = l.length := by omega
    rw [impl_worths.l0, if_neg (by omega), Nat.sub_self, List.replicate_zero, List.append_nil, ← hlen, List.take_length]
  | succ j ih =>
    intro k i h1 h2 h3
    obtain ⟨k, rfl⟩ : ∃ m, k = m + 1 := ⟨k - 1, by omega⟩
    have hlt : i < l.length := by omega
    have hltp : i < p.length := by omega
    have hd := hp p[i] (List.getElem_mem hltp)
    have hx := hok l[i] (List.getElem_mem hlt)
    have er : rd p (i : Int) = p[i] := by simp [rd, hltp]
    have hw := worthsL_at l p i hlt hltp
    have htk : (worthsL l p).take (i + 1) = (worthsL l p).take i ++ [if 0 ≤ p[i] then pw l[i] p[i] else 0] := by
      rw [List.take_add_one, hw]; rfl
    have hrep : List.replicate (l.length - i) (0 : Int) = 0 :: List.replicate (l.length - (i + 1)) 0 := by
      rw [show l.length - i = (l.length - (i + 1)) + 1 by omega, List.replicate_succ]
    have ih' := ih k (i + 1) (by omega) (by omega) (by omega)
    rw [impl_worths.l0, if_pos (by omega), if_pos (by omega), if_pos (by omega), er]
    by_cases hc : p[i] ≥ 0
    · rw [if_pos hc, if_pos (by omega), pl_rd l i hlt, impl_worth_f _ _ hx (by omega) (by omega)]
      simp only [Option.bind_some]
      rw [if_pos (by simp [List.length_take, hlen]; omega), Int.toNat_natCast, wrap_nat i (by omega)]
      rw [htk, if_pos hc] at ih'
      rw [hrep, List.set_append, if_neg (by simp [List.length_take, hlen]; omega), List.length_take, hlen, Nat.min_eq_left (by omega), Nat.sub_self, List.set_cons_zero]
      rw [List.append_assoc] at ih'
      exact ih'
    · rw [if_neg hc, wrap_nat i (by omega)]
      rw [htk, if_neg hc] at ih'
      rw [hrep]
      rw [List.append_assoc] at ih'
      exact ih'
theorem worths_f (l : List S40) (hok : ∀ x ∈ l, plotOk x = true) (p : List Int) (hp : ∀ d ∈ p, -1 ≤ d ∧ d ≤ 19) (hl : p.length = l.length) (hn : l.length ≤ 6) (k : Nat) (hk : l.length < k) : impl_worths.f k l p = some (worthsL l p) := by
  unfold impl_worths.f
  rw [if_pos (by omega), if_pos (by omega), Int.toNat_natCast]
  have := worths_loop l hok p hp hl hn l.length k 0 (by omega) (by omega) hk
  simpa using this
theorem worthsL_bound (l : List S40) (hok : ∀ x ∈ l, plotOk x = true) (p : List Int) : ∀ x ∈ worthsL l p, 0 ≤ x ∧ x ≤ 1000 := by
  induction l generalizing p with
  | nil => cases p <;> simp [worthsL]
  | cons y l ih =>
    cases p with
    | nil => simp [worthsL]
    | cons d p =>
      intro x hx
      simp only [worthsL, List.mem_cons] at hx
      rcases hx with rfl | hx
      · have h2 := pw_nonneg y d
        have h3 := pw_le y d (hok y (by simp))
        split <;> omega
      · exact ih (fun z hz => hok z (by simp [hz])) p x hx
theorem shl_one (n : Nat) (h : n ≤ 6) : wrap64 (shl .i64 1 (n : Int) - 1) = ((2 ^ n - 1 : Nat) : Int) := by
  have : ∀ n : Fin 7, wrap64 (shl .i64 1 (n.val : Int) - 1) = ((2 ^ n.val - 1 : Nat) : Int) := by decide +kernel
  exact this ⟨n, by omega⟩
/-- impl.most answers the greatest worth of a plan that begins as told. -/
theorem most_f (l : List S40) (hok : ∀ x ∈ l, plotOk x = true) (hn : l.length ≤ 6) (h : Int) (hh : 0 ≤ h) (hh2 : h ≤ 3) (D : Nat) (hD : D ≤ 20) (q : List Int) (hq : q.length ≤ l.length) (hqd : ∀ d ∈ q, -1 ≤ d ∧ d ≤ 19) :
    EvP (fun k => impl_most.f k l h D q) (MostOk (l.drop q.length) h q (planSum (l.take q.length) q) D) := by
  have hokt : ∀ x ∈ l.take q.length, plotOk x = true := fun x hx => hok x (List.mem_of_mem_take hx)
  have hokd : ∀ x ∈ l.drop q.length, plotOk x = true := fun x hx => hok x (List.mem_of_mem_drop hx)
  have hlt : (l.take q.length).length = q.length := by rw [List.length_take]; omega
  have hps := planSum_bound (l.take q.length) hokt q
  have hwl := worthsL_length (l.take q.length) q hlt.symm
  obtain ⟨r, ⟨K, hr⟩, hP⟩ := most_l0 (l.drop q.length) h q (planSum (l.take q.length) q) hokd (by rw [List.length_drop]; omega) hh hh2 (by omega) hps.1 (by omega) D hD (2 ^ (l.drop q.length).length - 1) 0 (Nat.zero_le _) (by omega)
  refine ⟨r, ⟨max K 100, fun k hk => ?_⟩, hP⟩
  have h1 := worths_f (l.take q.length) hokt q hqd hlt.symm (by omega) k (by omega)
  have h2 := total_f (worthsL (l.take q.length) q) (worthsL_bound _ hokt q) (by omega) k (by omega)
  rw [worthsL_sum] at h2
  have h3 := hr k (by omega)
  have hpw := pow_le6 (l.drop q.length) (by rw [List.length_drop]; omega)
  have hpw1 := Nat.two_pow_pos (l.drop q.length).length
  have hsh := shl_one (l.drop q.length).length (by rw [List.length_drop]; omega)
  show impl_most.f k l h D q = some r
  unfold impl_most.f
  rw [if_pos (by omega), if_pos (by omega), Int.toNat_natCast]
  simp only [Option.bind_some]
  rw [h1]
  simp only [Option.bind_some]
  rw [h2]
  simp only [Option.bind_some]
  rw [hsh]
  exact h3
end Go.Proofs.Ytokeeplkbgdokaa

/- Functions of the program as Lean functions, each with a proof that a call of it comes to just that. Written by this session's program wip/tools/myprint.py. -/
namespace Go.Proofs.Ytokeeplkbgdokaa.Pq
open Go.RowKit Go.Proofs.YtokeeplkbgdokaaW.PrintWords Go.Proofs.YtokeeplkbgdokaaW.PrintLast Go.Proofs.YtokeeplkbgdokaaW.PrintMore
attribute [local go_sem] max2_int min2_int max_two min_two max_three min_three max_four min_four   -- for this text's walks alone
set_option linter.unusedVariables false
set_option linter.unusedSimpArgs false

/-! ### impl_bestPlan: function 28 -/
mutual
def impl_bestPlan.l0 : Nat → List (S40) → Int → Int → List Int → Int → Int → Int → Option (List Int × Int)
 | 0, _, _, _, _, _, _, _ => none
 | k + 1, x0, x1, x2, x8, x9, x17, x18 => if x18 < x17 then (impl_bestPlan.l1 k x0 x1 x2 x8 x9 (-1) x17 x18) else (some (x8, x9))
def impl_bestPlan.l1 : Nat → List (S40) → Int → Int → List Int → Int → Int → Int → Int → Option (List Int × Int)
 | 0, _, _, _, _, _, _, _, _ => none
 | k + 1, x0, x1, x2, x8, x9, x10, x17, x18 => (slices_Clone.f x8).bind fun t201 => (if t201.length < 17592186044416 then ((impl_most.f k x0 x1 x2 (t201 ++ [x10])).bind fun t207 => (if t207 < x9 then (impl_bestPlan.l1 k x0 x1 x2 x8 x9 (wrap64 (x10 + 1)) x17 x18) else (if x8.length < 17592186044416 then (impl_bestPlan.l0 k x0 x1 x2 (x8 ++ [x10]) x9 x17 (wrap64 (x18 + 1))) else (none)))) else (none))
end
def impl_bestPlan.f (k : Nat) (l0 : List (S40)) (a1 : Int) (a2 : Int) : Option (List Int × Int) := (impl_most.f k l0 a1 a2 ([] : List Int)).bind fun t200 => (impl_bestPlan.l0 k l0 a1 a2 (([] : List Int)) t200 (l0.length : Int) 0)
theorem impl_bestPlan.mono_l : ∀ k, (∀ y0 y1 y2 y3 y4 y5 y6, LeO (impl_bestPlan.l0 k y0 y1 y2 y3 y4 y5 y6) (impl_bestPlan.l0 (k + 1) y0 y1 y2 y3 y4 y5 y6)) ∧ (∀ y0 y1 y2 y3 y4 y5 y6 y7, LeO (impl_bestPlan.l1 k y0 y1 y2 y3 y4 y5 y6 y7) (impl_bestPlan.l1 (k + 1) y0 y1 y2 y3 y4 y5 y6 y7))
 | 0 => ⟨fun _ _ _ _ _ _ _ r h => by simp [impl_bestPlan.l0] at h, fun _ _ _ _ _ _ _ _ r h => by simp [impl_bestPlan.l1] at h⟩
 | k + 1 => by
  obtain ⟨ih0, ih1⟩ := impl_bestPlan.mono_l k
  refine ⟨?_, ?_⟩
  ·intro y0 y1 y2 y3 y4 y5 y6
   unfold impl_bestPlan.l0
   repeat' first
   | (with_reducible exact ih0 _ _ _ _ _ _ _)
   | (with_reducible exact ih1 _ _ _ _ _ _ _ _)
   | (with_reducible exact impl_most.mono _ _ _ _ _)
   | (with_reducible exact LeO.refl _)
   | (with_reducible exact LeO.none _)
   | (with_reducible refine LeO.ite ?_ ?_)
   | (with_reducible refine LeO.bind ?_ (fun _ => ?_))
   | exact ih0 _ _ _ _ _ _ _
   | exact ih1 _ _ _ _ _ _ _ _
   | exact impl_most.mono _ _ _ _ _
   | exact LeO.none _
   | refine LeO.ite ?_ ?_
   | refine LeO.bind ?_ (fun _ => ?_)
  ·intro y0 y1 y2 y3 y4 y5 y6 y7
   unfold impl_bestPlan.l1
   repeat' first
   | (with_reducible exact ih0 _ _ _ _ _ _ _)
   | (with_reducible exact ih1 _ _ _ _ _ _ _ _)
   | (with_reducible exact impl_most.mono _ _ _ _ _)
   | (with_reducible exact LeO.refl _)
   | (with_reducible exact LeO.none _)
   | (with_reducible refine LeO.ite ?_ ?_)
   | (with_reducible refine LeO.bind ?_ (fun _ => ?_))
   | exact ih0 _ _ _ _ _ _ _
   | exact ih1 _ _ _ _ _ _ _ _
   | exact impl_most.mono _ _ _ _ _
   | exact LeO.none _
   | refine LeO.ite ?_ ?_
   | refine LeO.bind ?_ (fun _ => ?_)
theorem impl_bestPlan.mono : ∀ a0 a1 a2 k, LeO (impl_bestPlan.f k a0 a1 a2) (impl_bestPlan.f (k + 1) a0 a1 a2) := by
 intro a0 a1 a2 k
 obtain ⟨ih0, ih1⟩ := impl_bestPlan.mono_l k
 unfold impl_bestPlan.f
 repeat' first
   | (with_reducible exact ih0 _ _ _ _ _ _ _)
   | (with_reducible exact ih1 _ _ _ _ _ _ _ _)
   | (with_reducible exact impl_most.mono _ _ _ _ _)
   | (with_reducible exact LeO.refl _)
   | (with_reducible exact LeO.none _)
   | (with_reducible refine LeO.ite ?_ ?_)
   | (with_reducible refine LeO.bind ?_ (fun _ => ?_))
   | exact ih0 _ _ _ _ _ _ _
   | exact ih1 _ _ _ _ _ _ _ _
   | exact impl_most.mono _ _ _ _ _
   | exact LeO.none _
   | refine LeO.ite ?_ ?_
   | refine LeO.bind ?_ (fun _ => ?_)
set_option maxHeartbeats 8000000 in
set_option maxRecDepth 100000 in
theorem impl_bestPlan.calls (k : Nat) (A0 : Option Addr) (c0 : Nat) (l0 : List (S40)) (a1 : Int) (a2 : Int) (r1 : List Int) (r2 : Int) (w : World) (hr0 : Kd.C k40 w A0 l0.length l0) (hc0 : l0.length ≤ c0) (h : impl_bestPlan.f k l0 a1 a2 = some (r1, r2)) :
  Calls Try.prog 28 #[.slice A0 l0.length c0, .int .i64 a1, .int .i64 a2] w fun e w' => ∃ v0_ : Value, e = .returned (.tuple #[v0_, .int .i64 r2]) ∧ Kd.R (Kd.int .i64) 2 w' w.heap.size (fun _ => True) v0_ r1 ∧ Below w.heap.size w w' := by
 have HR0 := Aside0.mk hr0
 have HC0 := Aside0.mk hc0
 clear hr0 hc0
 have HB := Aside0.mk (Below.refl w.heap.size w)
 have H : ((impl_most.f k l0 a1 a2 ([] : List Int)).bind fun t200 => (impl_bestPlan.l0 k l0 a1 a2 (([] : List Int)) t200 (l0.length : Int) 0)) = some (r1, r2) := h
 clear h
 obtain ⟨y197, hy197⟩ : ∃ y_ : List Int, y_ = (([] : List Int)) := ⟨_, rfl⟩
 replace H : ((impl_most.f k l0 a1 a2 ([] : List Int)).bind fun t200 => (impl_bestPlan.l0 k l0 a1 a2 y197 t200 (l0.length : Int) 0)) = some (r1, r2) := by first | (rw [hy197]; with_reducible exact H) | (have H2_ := (Option.bind_some _ _).symm.trans H; rw [hy197]; with_reducible exact H2_) | (have H2_ := (Option.bind_some _ _).symm.trans H; with_reducible exact H2_) | with_reducible exact H | (rw [hy197]; exact H) | exact H
 have Ny197 := Aside0.mk hy197
 clear hy197
 replace H := Option.bind_eq_some_iff.mp H
 obtain ⟨t200, A40, H⟩ := H
 replace H : (impl_bestPlan.l0 k l0 a1 a2 y197 t200 (l0.length : Int) 0) = some (r1, r2) := H
 have A4 := Aside0.mk A40
 clear A40
 have H' := Aside0.mk H
 clear H
 go_enter Try.func28, Try.ntmps28
 go_wp2_with (first | ((with_reducible refine gate_dst (N := 11) rfl ?_); refine Kd.R_lit (Kd.int .i64) _ 2 ?hg (N := 11) ?hd (xs := ([] : List Int)) (inner := []) (ok := fun _ => True) (okp := fun _ => True) ?hr ?hp (fun _ hk => hk) trivial (Below.refl _ _) (Nat.le_refl _) (by simp) ?_; (case hd => rfl); (case hg => rfl); (case hr => first | (go_simp; done) | (go_simp; rfl)); (case hp => exact (Reps.none _ _)); intro v198 w5 ho6 hb hg_ hnew_; clear hg_ hnew_; (first | rw [← Ny197.out] at ho6 | (simp only [Int.reduceToNat] at ho6; rw [← Ny197.out] at ho6)); have n0_ := Aside0.mk (Kd.R_lower ho6 (below_size (by repeat (first | (with_reducible first | exact HB.out | apply below_alloc | apply pw_below_drewN | apply below_drew1) | exact HB.out)))); have n1_ := Aside0.mk (below_step (by repeat (first | (with_reducible first | exact HB.out | apply below_alloc | apply pw_below_drewN | apply below_drew1) | exact HB.out)) hb); clear HB; have HO199 := n0_; have HB := n1_; clear n0_ n1_; clear hb ho6) | ((with_reducible refine gate_callee (f := 45) rfl ?_); refine goesL_ (some 15) rfl rfl Try.func45 (by kernel_rfl) rfl #[.slice A0 l0.length c0, .int .i64 a1, .int .i64 a2, .slice none 0 0] rfl (by (try simp only [List.map_toArray, List.map_cons, List.map_nil]); first | done | rfl | (simp only [List.length_drop, List.length_take]; rfl)) ?_; (refine (impl_most.calls k _ _ l0 a1 a2 _ _ ([] : List Int) t200 _ ?side1 ?side2 ?side3 ?side4 A4.out).mono ?_); (case side1 => repeat (first | exact (Kd.C_below HR0.out HB.out) | (with_reducible refine Kd.C_alloc ?_ _) | (with_reducible refine Kd.C_drewN ?_ _) | (with_reducible refine Kd.C_drew ?_))); (case side2 => exact HC0.out); (case side3 => exact Kd.C_nil _ _); (case side4 => exact Nat.le_refl _); rintro e w7 ⟨rfl, hb⟩; refine ⟨_, rfl, ?_⟩; have n0_ := Aside0.mk (Kd.R_below (by (with_reducible repeat (first | apply Kd.R_alloc | apply Kd.R_drewN | apply Kd.R_drew)); exact HO199.out) hb); have n1_ := Aside0.mk (below_step (by repeat (first | (with_reducible first | exact HB.out | apply below_alloc | apply pw_below_drewN | apply below_drew1) | exact HB.out)) hb); clear HO199; clear HB; have HO199 := n0_; have HB := n1_; clear n0_ n1_; (try clear hb); (try clear hb2); (try clear hk); (try clear hi)))
 go_loopg [8, 18] k (fun kq v8 v18 w' => ∃ (x8_1 : List Int) (x18_1 : Int), v18 = .int .i64 x18_1 ∧ Aside0 (impl_bestPlan.l0 kq l0 a1 a2 x8_1 t200 (l0.length : Int) x18_1 = some (r1, r2)) ∧ Aside0 (kq ≤ k) ∧ Aside0 (Kd.R (Kd.int .i64) 2 w' w.heap.size (fun _ => True) v8 x8_1) ∧ Aside0 (Below w.heap.size w w'))
 case atStart => exact ⟨(y197), (0), (by first | rfl | (simp; done) | (simp [*]; done)), H', ⟨Nat.le_refl _⟩, ⟨by (with_reducible repeat (first | apply Kd.R_alloc | apply Kd.R_drewN | apply Kd.R_drew)); exact HO199.out⟩, ⟨by repeat (first | (with_reducible first | exact HB.out | apply below_alloc | apply pw_below_drewN | apply below_drew1) | exact HB.out)⟩⟩
 case round =>
  clear H'
  try clear c2
  try clear p2
  try clear c4
  obtain ⟨x8_1, x18_1, rfl, HA, HK1, HO_8, HB⟩ := hrel
  cases gk with
  | zero => exact absurd HA.out (by simp [impl_bestPlan.l0])
  | succ k1 =>
   have H := HA.out
   clear HA
   simp only [impl_bestPlan.l0] at H
   by_cases c8 : x18_1 < (l0.length : Int)
   ·rw [if_pos c8] at H
    have c8b0 : decide (x18_1 < (l0.length : Int)) = true := decide_eq_true c8
    clear c8
    have H' := Aside0.mk H
    clear H
    go_wp2
    go_loopg [10] k1 (fun kq v10 w' => ∃ (x10_2 : Int), v10 = .int .i64 x10_2 ∧ Aside0 (impl_bestPlan.l1 kq l0 a1 a2 x8_1 t200 x10_2 (l0.length : Int) x18_1 = some (r1, r2)) ∧ Aside0 (kq ≤ k1) ∧ Aside0 (Kd.R (Kd.int .i64) 2 w' w.heap.size (fun _ => True) u8 x8_1) ∧ Aside0 (Below w.heap.size w w'))
    case atStart => exact ⟨((-1)), (by first | rfl | (simp; done) | (simp [*]; done)), H', ⟨Nat.le_refl _⟩, ⟨by (with_reducible repeat (first | apply Kd.R_alloc | apply Kd.R_drewN | apply Kd.R_drew)); exact HO_8.out⟩, ⟨by repeat (first | (with_reducible first | exact HB.out | apply below_alloc | apply pw_below_drewN | apply below_drew1) | exact HB.out)⟩⟩
    case round =>
     clear H'
     try clear c2
     try clear p2
     try clear c4
     try clear c8
     try clear c8b0
     try clear p2
     obtain ⟨x10_2, rfl, HA, HK2, HO_8, HB⟩ := hrel
     cases gk with
     | zero => exact absurd HA.out (by simp [impl_bestPlan.l1])
     | succ k2 =>
      have H := HA.out
      clear HA
      simp only [impl_bestPlan.l1] at H
      replace H := Option.bind_eq_some_iff.mp H
      obtain ⟨t201, A90, H⟩ := H
      replace H : (if t201.length < 17592186044416 then ((impl_most.f k2 l0 a1 a2 (t201 ++ [x10_2])).bind fun t207 => (if t207 < t200 then (impl_bestPlan.l1 k2 l0 a1 a2 x8_1 t200 (wrap64 (x10_2 + 1)) (l0.length : Int) x18_1) else (if x8_1.length < 17592186044416 then (impl_bestPlan.l0 k2 l0 a1 a2 (x8_1 ++ [x10_2]) t200 (l0.length : Int) (wrap64 (x18_1 + 1))) else (none)))) else (none)) = some (r1, r2) := H
      have A9 := Aside0.mk A90
      clear A90
      by_cases c10 : t201.length < 17592186044416
      ·rw [if_pos c10] at H
       have LMc10 := Aside0.mk c10
       clear c10
       obtain ⟨y204, hy204⟩ : ∃ y_ : List Int, y_ = (t201 ++ [x10_2]) := ⟨_, rfl⟩
       replace H : ((impl_most.f k2 l0 a1 a2 y204).bind fun t207 => (if t207 < t200 then (impl_bestPlan.l1 k2 l0 a1 a2 x8_1 t200 (wrap64 (x10_2 + 1)) (l0.length : Int) x18_1) else (if x8_1.length < 17592186044416 then (impl_bestPlan.l0 k2 l0 a1 a2 (x8_1 ++ [x10_2]) t200 (l0.length : Int) (wrap64 (x18_1 + 1))) else (none)))) = some (r1, r2) := by first | (rw [hy204]; with_reducible exact H) | (have H2_ := (Option.bind_some _ _).symm.trans H; rw [hy204]; with_reducible exact H2_) | (have H2_ := (Option.bind_some _ _).symm.trans H; with_reducible exact H2_) | with_reducible exact H | (rw [hy204]; exact H) | exact H
       have Ny204 := Aside0.mk hy204
       clear hy204
       replace H := Option.bind_eq_some_iff.mp H
       obtain ⟨t207, A110, H⟩ := H
       replace H : (if t207 < t200 then (impl_bestPlan.l1 k2 l0 a1 a2 x8_1 t200 (wrap64 (x10_2 + 1)) (l0.length : Int) x18_1) else (if x8_1.length < 17592186044416 then (impl_bestPlan.l0 k2 l0 a1 a2 (x8_1 ++ [x10_2]) t200 (l0.length : Int) (wrap64 (x18_1 + 1))) else (none))) = some (r1, r2) := H
       have A11 := Aside0.mk A110
       clear A110
       by_cases c12 : t207 < t200
       ·rw [if_pos c12] at H
        have c12b0 : decide (t207 < t200) = true := decide_eq_true c12
        clear c12
        have H' := Aside0.mk H
        clear H
        obtain ⟨Ao13, co13, eo13⟩ := Kd.R_slice HO_8.out
        subst eo13
        go_wp2_with (first | ((with_reducible refine gate_callee (f := 48) rfl ?_); refine goesL_ (some 24) rfl rfl Try.func48 (by kernel_rfl) rfl #[.slice Ao13 x8_1.length co13] rfl (by (try simp only [List.map_toArray, List.map_cons, List.map_nil]); first | done | rfl | (simp only [List.length_drop, List.length_take]; rfl)) ?_; (with_reducible refine (slices_Clone.calls _ _ x8_1 t201 _ ?side1 ?side2 A9.out).mono ?_); (case side1 => repeat (first | exact (Kd.R_reads' HO_8.out).2.2 | (with_reducible refine Kd.C_alloc ?_ _) | (with_reducible refine Kd.C_drewN ?_ _) | (with_reducible refine Kd.C_drew ?_))); (case side2 => exact (Kd.R_reads' HO_8.out).2.1); rintro e w14 ⟨v202, rfl, ho0, hb⟩; refine ⟨_, rfl, ?_⟩; have n0_ := Aside0.mk (Kd.R_elder' (by (with_reducible repeat (first | apply Kd.R_alloc | apply Kd.R_drewN | apply Kd.R_drew)); exact HO_8.out) (Kd.R_base ho0) hb); have n1_ := Aside0.mk (Kd.R_lower (Kd.R_new' ho0 (Kd.R_lt (by (with_reducible repeat (first | apply Kd.R_alloc | apply Kd.R_drewN | apply Kd.R_drew)); exact HO_8.out))) (below_size (by repeat (first | (with_reducible first | exact HB.out | apply below_alloc | apply pw_below_drewN | apply below_drew1) | exact HB.out)))); have n2_ := Aside0.mk (below_step (by repeat (first | (with_reducible first | exact HB.out | apply below_alloc | apply pw_below_drewN | apply below_drew1) | exact HB.out)) hb); clear HO_8; clear HB; have HO_8 := n0_; have HO203 := n1_; have HB := n2_; clear n0_ n1_ n2_; (try clear hb); (try clear hb2); (try clear hk); (try clear hi); (try clear ho0)) | ((with_reducible refine gate_builtin (b := .append) (xs := #[.tmp 24, .tmp 26]) rfl ?_); at_builtin; refine Kd.R_append (Kd.int .i64) (w0 := w) w.heap.size rfl (.tmp 24) (.tmp 26) 27 2 (.int .i64 0) 8 rfl Try.underlying27 info2 rfl (by decide) (by omega) v202 t201 x10_2 [.int .i64 x10_2] (fun k_ => some k_ ≠ (.slice Ao13 x8_1.length co13 : Value).ownBlock) (fun _ => False) rfl rfl ?aP (fun _ hk => hk.elim) ?aF ?aO ?aB ?aS ?aL ?_; (case aP => exact rfl); (case aB => exact (by repeat (first | (with_reducible first | exact HB.out | apply below_alloc | apply pw_below_drewN | apply below_drew1) | exact HB.out))); (case aF => exact (fun k_ hk => Kd.fresh' (Kd.R_lt (by (with_reducible repeat (first | apply Kd.R_alloc | apply Kd.R_drewN | apply Kd.R_drew)); exact HO_8.out)) k_ hk)); (case aO => exact (by (with_reducible repeat (first | apply Kd.R_alloc | apply Kd.R_drewN | apply Kd.R_drew)); exact Kd.R_mono HO203.out (fun _ hk => hk.2))); (case aS => exact (below_size (by repeat (first | (with_reducible first | exact HB.out | apply below_alloc | apply pw_below_drewN | apply below_drew1) | exact HB.out)))); (case aL => have := LMc10.out; omega); intro v205 w15 ho hb hg hat; rw [← Ny204.out] at ho; have n0_ := Aside0.mk (Kd.R_after (ok := (fun _ => True)) (by (with_reducible repeat (first | apply Kd.R_alloc | apply Kd.R_drewN | apply Kd.R_drew)); exact HO_8.out) hg hat); have n1_ := Aside0.mk (hb); have n2_ := Aside0.mk (ho); clear HO_8; clear HB; clear HO203; have HO_8 := n0_; have HB := n1_; have HO206 := n2_; clear n0_ n1_ n2_; clear ho hb hg hat; obtain ⟨Ao16, co16, eo16⟩ := Kd.R_slice HO206.out; subst eo16) | ((with_reducible refine gate_callee (f := 45) rfl ?_); refine goesL_ (some 28) rfl rfl Try.func45 (by kernel_rfl) rfl #[.slice A0 l0.length c0, .int .i64 a1, .int .i64 a2, .slice Ao16 y204.length co16] rfl (by (try simp only [List.map_toArray, List.map_cons, List.map_nil]); first | done | rfl | (simp only [List.length_drop, List.length_take]; rfl)) ?_; (with_reducible refine (impl_most.calls k2 _ _ l0 a1 a2 _ _ y204 t207 _ ?side1 ?side2 ?side3 ?side4 A11.out).mono ?_); (case side1 => repeat (first | exact (Kd.C_below HR0.out HB.out) | (with_reducible refine Kd.C_alloc ?_ _) | (with_reducible refine Kd.C_drewN ?_ _) | (with_reducible refine Kd.C_drew ?_))); (case side2 => exact HC0.out); (case side3 => repeat (first | exact (Kd.R_reads' HO206.out).2.2 | (with_reducible refine Kd.C_alloc ?_ _) | (with_reducible refine Kd.C_drewN ?_ _) | (with_reducible refine Kd.C_drew ?_))); (case side4 => exact (Kd.R_reads' HO206.out).2.1); rintro e w17 ⟨rfl, hb⟩; refine ⟨_, rfl, ?_⟩; have n0_ := Aside0.mk (Kd.R_below (by (with_reducible repeat (first | apply Kd.R_alloc | apply Kd.R_drewN | apply Kd.R_drew)); exact HO_8.out) hb); have n1_ := Aside0.mk (Kd.R_below (by (with_reducible repeat (first | apply Kd.R_alloc | apply Kd.R_drewN | apply Kd.R_drew)); exact HO206.out) hb); have n2_ := Aside0.mk (below_step (by repeat (first | (with_reducible first | exact HB.out | apply below_alloc | apply pw_below_drewN | apply below_drew1) | exact HB.out)) hb); clear HO_8; clear HO206; clear HB; have HO_8 := n0_; have HO206 := n1_; have HB := n2_; clear n0_ n1_ n2_; (try clear hb); (try clear hb2); (try clear hk); (try clear hi)))
        go_roundg k2
        case measure => have := HK1.out; have := HK2.out; omega
        case rel => exact ⟨(wrap64 (x10_2 + 1)), (by first | rfl | (simp; done) | (simp [*]; done)), H', ⟨by have := HK1.out; have := HK2.out; omega⟩, ⟨by (with_reducible repeat (first | apply Kd.R_alloc | apply Kd.R_drewN | apply Kd.R_drew)); exact Kd.R_mono HO_8.out (fun _ hk => trivial)⟩, ⟨by repeat (first | (with_reducible first | exact HB.out | apply below_alloc | apply pw_below_drewN | apply below_drew1) | exact HB.out)⟩⟩
       ·rw [if_neg c12] at H
        have c12b0 : decide (t207 < t200) = false := decide_eq_false c12
        clear c12
        by_cases c18 : x8_1.length < 17592186044416
        ·rw [if_pos c18] at H
         have LMc18 := Aside0.mk c18
         clear c18
         obtain ⟨y208, hy208⟩ : ∃ y_ : List Int, y_ = (x8_1 ++ [x10_2]) := ⟨_, rfl⟩
         replace H : (impl_bestPlan.l0 k2 l0 a1 a2 y208 t200 (l0.length : Int) (wrap64 (x18_1 + 1))) = some (r1, r2) := by first | (rw [hy208]; with_reducible exact H) | (have H2_ := (Option.bind_some _ _).symm.trans H; rw [hy208]; with_reducible exact H2_) | (have H2_ := (Option.bind_some _ _).symm.trans H; with_reducible exact H2_) | with_reducible exact H | (rw [hy208]; exact H) | exact H
         have Ny208 := Aside0.mk hy208
         clear hy208
         have H' := Aside0.mk H
         clear H
         obtain ⟨Ao19, co19, eo19⟩ := Kd.R_slice HO_8.out
         subst eo19
         go_wp2_with (first | ((with_reducible refine gate_callee (f := 48) rfl ?_); refine goesL_ (some 24) rfl rfl Try.func48 (by kernel_rfl) rfl #[.slice Ao19 x8_1.length co19] rfl (by (try simp only [List.map_toArray, List.map_cons, List.map_nil]); first | done | rfl | (simp only [List.length_drop, List.length_take]; rfl)) ?_; (with_reducible refine (slices_Clone.calls _ _ x8_1 t201 _ ?side1 ?side2 A9.out).mono ?_); (case side1 => repeat (first | exact (Kd.R_reads' HO_8.out).2.2 | (with_reducible refine Kd.C_alloc ?_ _) | (with_reducible refine Kd.C_drewN ?_ _) | (with_reducible refine Kd.C_drew ?_))); (case side2 => exact (Kd.R_reads' HO_8.out).2.1); rintro e w20 ⟨v202, rfl, ho0, hb⟩; refine ⟨_, rfl, ?_⟩; have n0_ := Aside0.mk (Kd.R_elder' (by (with_reducible repeat (first | apply Kd.R_alloc | apply Kd.R_drewN | apply Kd.R_drew)); exact HO_8.out) (Kd.R_base ho0) hb); have n1_ := Aside0.mk (Kd.R_lower (Kd.R_new' ho0 (Kd.R_lt (by (with_reducible repeat (first | apply Kd.R_alloc | apply Kd.R_drewN | apply Kd.R_drew)); exact HO_8.out))) (below_size (by repeat (first | (with_reducible first | exact HB.out | apply below_alloc | apply pw_below_drewN | apply below_drew1) | exact HB.out)))); have n2_ := Aside0.mk (below_step (by repeat (first | (with_reducible first | exact HB.out | apply below_alloc | apply pw_below_drewN | apply below_drew1) | exact HB.out)) hb); clear HO_8; clear HB; have HO_8 := n0_; have HO203 := n1_; have HB := n2_; clear n0_ n1_ n2_; (try clear hb); (try clear hb2); (try clear hk); (try clear hi); (try clear ho0)) | ((with_reducible refine gate_builtin (b := .append) (xs := #[.tmp 24, .tmp 26]) rfl ?_); at_builtin; refine Kd.R_append (Kd.int .i64) (w0 := w) w.heap.size rfl (.tmp 24) (.tmp 26) 27 2 (.int .i64 0) 8 rfl Try.underlying27 info2 rfl (by decide) (by omega) v202 t201 x10_2 [.int .i64 x10_2] (fun k_ => some k_ ≠ (.slice Ao19 x8_1.length co19 : Value).ownBlock) (fun _ => False) rfl rfl ?aP (fun _ hk => hk.elim) ?aF ?aO ?aB ?aS ?aL ?_; (case aP => exact rfl); (case aB => exact (by repeat (first | (with_reducible first | exact HB.out | apply below_alloc | apply pw_below_drewN | apply below_drew1) | exact HB.out))); (case aF => exact (fun k_ hk => Kd.fresh' (Kd.R_lt (by (with_reducible repeat (first | apply Kd.R_alloc | apply Kd.R_drewN | apply Kd.R_drew)); exact HO_8.out)) k_ hk)); (case aO => exact (by (with_reducible repeat (first | apply Kd.R_alloc | apply Kd.R_drewN | apply Kd.R_drew)); exact Kd.R_mono HO203.out (fun _ hk => hk.2))); (case aS => exact (below_size (by repeat (first | (with_reducible first | exact HB.out | apply below_alloc | apply pw_below_drewN | apply below_drew1) | exact HB.out)))); (case aL => have := LMc10.out; omega); intro v205 w21 ho hb hg hat; rw [← Ny204.out] at ho; have n0_ := Aside0.mk (Kd.R_after (ok := (fun _ => True)) (by (with_reducible repeat (first | apply Kd.R_alloc | apply Kd.R_drewN | apply Kd.R_drew)); exact HO_8.out) hg hat); have n1_ := Aside0.mk (hb); have n2_ := Aside0.mk (ho); clear HO_8; clear HB; clear HO203; have HO_8 := n0_; have HB := n1_; have HO206 := n2_; clear n0_ n1_ n2_; clear ho hb hg hat; obtain ⟨Ao22, co22, eo22⟩ := Kd.R_slice HO206.out; subst eo22) | ((with_reducible refine gate_callee (f := 45) rfl ?_); refine goesL_ (some 28) rfl rfl Try.func45 (by kernel_rfl) rfl #[.slice A0 l0.length c0, .int .i64 a1, .int .i64 a2, .slice Ao22 y204.length co22] rfl (by (try simp only [List.map_toArray, List.map_cons, List.map_nil]); first | done | rfl | (simp only [List.length_drop, List.length_take]; rfl)) ?_; (with_reducible refine (impl_most.calls k2 _ _ l0 a1 a2 _ _ y204 t207 _ ?side1 ?side2 ?side3 ?side4 A11.out).mono ?_); (case side1 => repeat (first | exact (Kd.C_below HR0.out HB.out) | (with_reducible refine Kd.C_alloc ?_ _) | (with_reducible refine Kd.C_drewN ?_ _) | (with_reducible refine Kd.C_drew ?_))); (case side2 => exact HC0.out); (case side3 => repeat (first | exact (Kd.R_reads' HO206.out).2.2 | (with_reducible refine Kd.C_alloc ?_ _) | (with_reducible refine Kd.C_drewN ?_ _) | (with_reducible refine Kd.C_drew ?_))); (case side4 => exact (Kd.R_reads' HO206.out).2.1); rintro e w23 ⟨rfl, hb⟩; refine ⟨_, rfl, ?_⟩; have n0_ := Aside0.mk (Kd.R_below (by (with_reducible repeat (first | apply Kd.R_alloc | apply Kd.R_drewN | apply Kd.R_drew)); exact HO_8.out) hb); have n1_ := Aside0.mk (Kd.R_below (by (with_reducible repeat (first | apply Kd.R_alloc | apply Kd.R_drewN | apply Kd.R_drew)); exact HO206.out) hb); have n2_ := Aside0.mk (below_step (by repeat (first | (with_reducible first | exact HB.out | apply below_alloc | apply pw_below_drewN | apply below_drew1) | exact HB.out)) hb); clear HO_8; clear HO206; clear HB; have HO_8 := n0_; have HO206 := n1_; have HB := n2_; clear n0_ n1_ n2_; (try clear hb); (try clear hb2); (try clear hk); (try clear hi)) | ((with_reducible refine gate_builtin (b := .append) (xs := #[.tmp 33, .tmp 35]) rfl ?_); at_builtin; refine Kd.R_append (Kd.int .i64) (w0 := w) w.heap.size rfl (.tmp 33) (.tmp 35) 27 2 (.int .i64 0) 8 rfl Try.underlying27 info2 rfl (by decide) (by omega) (.slice Ao19 x8_1.length co19) x8_1 x10_2 [.int .i64 x10_2] (fun k_ => some k_ ≠ (.slice Ao22 y204.length co22 : Value).ownBlock) (fun _ => False) rfl rfl ?aP (fun _ hk => hk.elim) ?aF ?aO ?aB ?aS ?aL ?_; (case aP => exact rfl); (case aB => exact (by repeat (first | (with_reducible first | exact HB.out | apply below_alloc | apply pw_below_drewN | apply below_drew1) | exact HB.out))); (case aF => exact (fun k_ hk => Kd.fresh' (Kd.R_lt (by (with_reducible repeat (first | apply Kd.R_alloc | apply Kd.R_drewN | apply Kd.R_drew)); exact HO206.out)) k_ hk)); (case aO => exact (by (with_reducible repeat (first | apply Kd.R_alloc | apply Kd.R_drewN | apply Kd.R_drew)); exact Kd.R_mono HO_8.out (fun _ hk => hk.2))); (case aS => exact (below_size (by repeat (first | (with_reducible first | exact HB.out | apply below_alloc | apply pw_below_drewN | apply below_drew1) | exact HB.out)))); (case aL => have := LMc18.out; omega); intro v209 w24 ho hb hg hat; rw [← Ny208.out] at ho; have n0_ := Aside0.mk (Kd.R_after (ok := (fun _ => True)) (by (with_reducible repeat (first | apply Kd.R_alloc | apply Kd.R_drewN | apply Kd.R_drew)); exact Kd.R_mono HO206.out (fun _ hk => ⟨trivial, hk⟩)) hg hat); have n1_ := Aside0.mk (hb); have n2_ := Aside0.mk (ho); clear HO206; clear HB; clear HO_8; have HO206 := n0_; have HB := n1_; have HO210 := n2_; clear n0_ n1_ n2_; clear ho hb hg hat))
         go_roundg k2
         case measure => have := HK1.out; have := HK2.out; omega
         case rel => exact ⟨(y208), (wrap64 (x18_1 + 1)), (by first | rfl | (simp; done) | (simp [*]; done)), H', ⟨by have := HK1.out; have := HK2.out; omega⟩, ⟨by (with_reducible repeat (first | apply Kd.R_alloc | apply Kd.R_drewN | apply Kd.R_drew)); exact Kd.R_mono HO210.out (fun _ hk => trivial)⟩, ⟨by repeat (first | (with_reducible first | exact HB.out | apply below_alloc | apply pw_below_drewN | apply below_drew1) | exact HB.out)⟩⟩
        ·rw [if_neg c18] at H
         exact absurd H (by simp)
      ·rw [if_neg c10] at H
       exact absurd H (by simp)
   ·rw [if_neg c8] at H
    have c8b0 : decide (x18_1 < (l0.length : Int)) = false := decide_eq_false c8
    clear c8
    simp only [Option.some.injEq, Prod.mk.injEq] at H
    obtain ⟨rfl, rfl⟩ := H
    go_wp2
    go_ret2
    exact ⟨_, by first | rfl | (simp [errW_none, errW_some] <;> rfl) | (simp [*, errW_none, errW_some] <;> rfl), by (with_reducible repeat (first | apply Kd.R_alloc | apply Kd.R_drewN | apply Kd.R_drew)); exact HO_8.out, by repeat (first | (with_reducible first | exact HB.out | apply below_alloc | apply pw_below_drewN | apply below_drew1) | exact HB.out)⟩

end Go.Proofs.Ytokeeplkbgdokaa.Pq

/- The best plans of both searches are one. Plain lemmas. -/
namespace Go.Proofs.Ytokeeplkbgdokaa
open Go Go.RowKit Go.Proofs.YtokeeplkbgdokaaW.PrintWords Go.Proofs.YtokeeplkbgdokaaW.PrintMore Go.Proofs.Ytokeeplkbgdokaa.Pq
set_option linter.unusedVariables false

/-- A beginning of a plan, or a whole one, that some hands can do in some days. -/
def okPlan (h : Int) (D : Nat) (p : List Int) : Prop := (∀ d ∈ p, -1 ≤ d ∧ d < (D : Int)) ∧ ∀ d : Nat, d < D → dayCount p d ≤ h
def fnOf (p : List Int) : Nat → Int := fun i => p.getD i (-1)
theorem cnt_fn (p : List Int) (d : Int) (hd : d ≠ -1) (n : Nat) (hn : p.length ≤ n) : ((cnt (fnOf p) d n : Nat) : Int) = ((p.count d : Nat) : Int) := by
  have key : ∀ n, cnt (fnOf p) d n = (p.take n).count d := by
    intro n
    induction n with
    | zero => rfl
    | succ n ih =>
      rw [cnt, ih, List.take_add_one]
      unfold fnOf
      rw [List.getD_eq_getElem?_getD]
      cases hp : p[n]? with
      | none => simp; omega
      | some x => simp [List.count_append, List.count_singleton]
  rw [key, List.take_of_length_le hn]
theorem fsum_fn (l : List S40) (p : List Int) (h : p.length = l.length) : fsum l (fnOf p) l.length = planSum l p := by
  have key : ∀ n, n ≤ l.length → fsum l (fnOf p) n = planSum (l.take n) (p.take n) := by
    intro n
    induction n with
    | zero => intro _; rfl
    | succ n ih =>
      intro hn
      have happ : ∀ (a : List S40) (b : List Int) x d, a.length = b.length → planSum (a ++ [x]) (b ++ [d]) = planSum a b + (if 0 ≤ d then pw x d else 0) := by
        intro a
        induction a with
        | nil => intro b x d hb; cases b with
          | nil => simp [planSum]
          | cons c b => simp at hb
        | cons y a ih =>
          intro b x d hb
          cases b with
          | nil => simp at hb
          | cons c b =>
            simp only [List.cons_append, planSum]
            rw [ih b x d (by simpa using hb)]
            omega
      have hl : n < l.length := by omega
      have hp : n < p.length := by omega
      rw [fsum, ih (by omega), List.take_succ_eq_append_getElem hl, List.take_succ_eq_append_getElem hp, happ _ _ _ _ (by rw [List.length_take, List.length_take]; omega)]
      unfold fnOf
      rw [pl_getD l _ hl, pl_getD p _ hp]
  have := key l.length (Nat.le_refl _)
  rw [List.take_length, ← h, List.take_length, h] at this
  exact this
theorem dayCount_app (p q : List Int) (d : Nat) : dayCount (p ++ q) d = dayCount p d + dayCount q d := by
  unfold dayCount
  rw [List.count_append]
  omega
theorem planSum_app (l : List S40) (q r : List Int) (h : q.length ≤ l.length) : planSum l (q ++ r) = planSum (l.take q.length) q + planSum (l.drop q.length) r := by
  induction q generalizing l with
  | nil => simp [planSum]
  | cons d q ih =>
    cases l with
    | nil => simp at h
    | cons x l =>
      simp only [List.cons_append, List.length_cons, List.take_succ_cons, List.drop_succ_cons, planSum]
      rw [ih l (by simpa using h)]
      omega
/-- A function of places as a list. -/
def listOf (r : Nat → Int) (n : Nat) : List Int := (List.range n).map r
theorem listOf_length (r n) : (listOf r n).length = n := by simp [listOf]
theorem listOf_fn (r : Nat → Int) (n i : Nat) (h : i < n) : fnOf (listOf r n) i = r i := by
  unfold fnOf listOf
  rw [List.getD_eq_getElem?_getD]
  simp [h]
section
variable (l : List S40) (h : Int) (D : Nat) (hok : ∀ x ∈ l, plotOk x = true) (hl : l.length ≤ 6)
include hok hl
omit hok in
theorem tryV_ge (q r : List Int) (hp : okPlan h D (q ++ r)) (hlen : (q ++ r).length = l.length) : planSum l (q ++ r) ≤ tryV l h D q := by
  have hq : q.length ≤ l.length := by rw [← hlen, List.length_append]; omega
  have hrl : r.length = (l.drop q.length).length := by rw [List.length_drop, ← hlen, List.length_append]; omega
  have hd := dayB_max (l.drop q.length) (by rw [List.length_drop]; omega) (freeOn h D q) D D (Nat.le_refl _) (2 ^ (l.drop q.length).length - 1) (by have := Nat.two_pow_pos (l.drop q.length).length; omega)
  have h1 := hd.1 (fnOf r) ⟨fun i hi => ?_, fun d _ h2 => ?_⟩ (fun i hi _ => by rw [Nat.testBit_two_pow_sub_one]; simpa using hi)
  · rw [fsum_fn _ _ hrl] at h1
    rw [planSum_app l q r hq]
    unfold tryV
    omega
  · have hi2 : i < r.length := by omega
    have := hp.1 r[i] (by simp)
    unfold fnOf
    rw [pl_getD r _ hi2]
    omega
  · have hc := hp.2 d h2
    rw [dayCount_app] at hc
    rw [cnt_fn r d (by omega) _ (by omega)]
    unfold freeOn
    rw [if_pos (by omega)]
    have : dayCount r d = ((r.count (d : Int) : Nat) : Int) := rfl
    omega
omit hok in
theorem tryV_at (q : List Int) (hq : q.length ≤ l.length) (hf : okPlan h D q) : ∃ r, (q ++ r).length = l.length ∧ okPlan h D (q ++ r) ∧ planSum l (q ++ r) = tryV l h D q := by
  have hd := dayB_max (l.drop q.length) (by rw [List.length_drop]; omega) (freeOn h D q) D D (Nat.le_refl _) (2 ^ (l.drop q.length).length - 1) (by have := Nat.two_pow_pos (l.drop q.length).length; omega)
  obtain ⟨f, g1, g2, _, g4⟩ := hd.2
  have hlen : (listOf f (l.drop q.length).length).length = (l.drop q.length).length := listOf_length _ _
  have hfn : ∀ i, i < (l.drop q.length).length → fnOf (listOf f (l.drop q.length).length) i = f i := fun i hi => listOf_fn f _ i hi
  refine ⟨listOf f (l.drop q.length).length, by rw [List.length_append, hlen, List.length_drop]; omega, ⟨fun d hd => ?_, fun d hd => ?_⟩, ?_⟩
  · rcases List.mem_append.1 hd with hd | hd
    · exact hf.1 d hd
    · simp only [listOf, List.mem_map, List.mem_range] at hd
      obtain ⟨i, hi, rfl⟩ := hd
      have := g1 i hi
      omega
  · rw [dayCount_app]
    have hc : dayCount (listOf f (l.drop q.length).length) d = ((cnt f d (l.drop q.length).length : Nat) : Int) := by
      unfold dayCount
      rw [← cnt_fn _ d (by omega) (l.drop q.length).length (by omega), cnt_congr _ f d _ (fun i hi => by rw [hfn i hi])]
    rw [hc]
    have hqc := hf.2 d hd
    by_cases h0 : 0 < cnt f d (l.drop q.length).length
    · have := g2 d (by omega) hd h0
      unfold freeOn at this
      rw [if_pos (by omega)] at this
      omega
    · omega
  · rw [planSum_app l q _ hq, ← fsum_fn _ _ hlen, fsum_congr _ _ f _ hfn, g4]
    unfold tryV
    omega
omit hok hl in
theorem okPlan_prefix {q r : List Int} (hp : okPlan h D (q ++ r)) : okPlan h D q := by
  refine ⟨fun d hd => hp.1 d (by simp [hd]), fun d hd => ?_⟩
  have := hp.2 d hd
  rw [dayCount_app] at this
  have : 0 ≤ dayCount r d := by unfold dayCount; omega
  omega
omit hok in
theorem tryV_mono (q r : List Int) (hlen : (q ++ r).length ≤ l.length) (hf : okPlan h D (q ++ r)) : tryV l h D (q ++ r) ≤ tryV l h D q := by
  obtain ⟨s, h1, h2, h3⟩ := tryV_at l h D hl (q ++ r) hlen hf
  rw [← h3, List.append_assoc]
  rw [List.append_assoc] at h1 h2
  exact tryV_ge l h D hl q (r ++ s) h2 h1
theorem tryV_nonneg (q : List Int) (hq : q.length ≤ l.length) (hf : okPlan h D q) : 0 ≤ tryV l h D q := by
  obtain ⟨r, h1, h2, h3⟩ := tryV_at l h D hl q hq hf
  rw [← h3]
  exact (planSum_bound l hok _).1
omit hok in
theorem tryV_full (p : List Int) (hp : p.length = l.length) (hf : okPlan h D p) : tryV l h D p = planSum l p := by
  obtain ⟨r, h1, h2, h3⟩ := tryV_at l h D hl p (by omega) hf
  have : r = [] := by
    rw [List.length_append] at h1
    exact List.eq_nil_of_length_eq_zero (by omega)
  subst this
  rw [List.append_nil] at h3
  exact h3.symm
omit hok hl in
theorem feas_iff (q : List Int) (d : Int) (hf : okPlan h D q) (hd : -1 ≤ d ∧ d < (D : Int)) : okPlan h D (q ++ [d]) ↔ fitsB h q d := by
  constructor
  · intro hp
    by_cases h0 : d < 0
    · exact .inl h0
    · right
      have := hp.2 d.toNat (by omega)
      rw [dayCount_app] at this
      have : dayCount [d] d.toNat = 1 := by
        unfold dayCount
        rw [Int.toNat_of_nonneg (by omega)]
        simp
      omega
  · intro hfit
    refine ⟨fun e he => ?_, fun e he => ?_⟩
    · rcases List.mem_append.1 he with he | he
      · exact hf.1 e he
      · rw [List.mem_singleton.1 he]; exact hd
    · rw [dayCount_app]
      have h1 := hf.2 e he
      by_cases h2 : d = (e : Int)
      · rcases hfit with h3 | h3
        · omega
        · rw [h2, Int.toNat_natCast] at h3
          have : dayCount [d] e = 1 := by
            unfold dayCount
            rw [h2]
            simp
          omega
      · have : dayCount [d] e = 0 := by
          unfold dayCount
          simp [h2]
        omega
/-- What the program's search answers at a beginning. -/
theorem most_val (hh : 0 ≤ h) (hh2 : h ≤ 3) (hD : D ≤ 20) (q : List Int) (hq : q.length ≤ l.length) (hqd : ∀ d ∈ q, -1 ≤ d ∧ d < (D : Int)) :
    (okPlan h D q → Ev (fun k => impl_most.f k l h D q) (tryV l h D q)) ∧ (¬ okPlan h D q → Ev (fun k => impl_most.f k l h D q) (-1)) := by
  obtain ⟨r, hr, hP⟩ := most_f l hok hl h hh hh2 D hD q hq (fun d hd => by have := hqd d hd; omega)
  have hiff : okPlan h D q ↔ ∀ d, d < D → 0 ≤ leftOn h q d := by
    constructor
    · intro hp d hd
      have := hp.2 d hd
      unfold leftOn
      omega
    · intro hp
      refine ⟨hqd, fun d hd => ?_⟩
      have := hp d hd
      unfold leftOn at this
      omega
  constructor
  · intro hf
    obtain ⟨h1, f, h2, h3⟩ := hP.1 (hiff.1 hf)
    have hv : r = tryV l h D q := by
      apply Int.le_antisymm
      · have hlen : (listOf f (l.drop q.length).length).length = (l.drop q.length).length := listOf_length _ _
        have hfn : ∀ i, i < (l.drop q.length).length → fnOf (listOf f (l.drop q.length).length) i = f i := fun i hi => listOf_fn f _ i hi
        have := tryV_ge l h D hl q (listOf f (l.drop q.length).length) ⟨fun d hd => ?_, fun d hd => ?_⟩ (by rw [List.length_append, hlen, List.length_drop]; omega)
        · rw [planSum_app l q _ hq, ← fsum_fn _ _ hlen, fsum_congr _ _ f _ hfn] at this
          omega
        · rcases List.mem_append.1 hd with hd | hd
          · exact hf.1 d hd
          · simp only [listOf, List.mem_map, List.mem_range] at hd
            obtain ⟨i, hi, rfl⟩ := hd
            have := h2.1 i hi
            omega
        · rw [dayCount_app]
          have hc : dayCount (listOf f (l.drop q.length).length) d = ((cnt f d (l.drop q.length).length : Nat) : Int) := by
            unfold dayCount
            rw [← cnt_fn _ d (by omega) (l.drop q.length).length (by omega), cnt_congr _ f d _ (fun i hi => by rw [hfn i hi])]
          rw [hc]
          have := h2.2 d (by omega) hd
          unfold leftOn at this
          omega
      · obtain ⟨s, e1, e2, e3⟩ := tryV_at l h D hl q hq hf
        have hsl : s.length = (l.drop q.length).length := by rw [List.length_drop]; rw [List.length_append] at e1; omega
        rw [← e3, planSum_app l q s hq, ← fsum_fn _ _ hsl]
        refine h1 (fnOf s) ⟨fun i hi => ?_, fun d _ hd => ?_⟩
        · have hi2 : i < s.length := by omega
          have := e2.1 s[i] (by simp)
          unfold fnOf
          rw [pl_getD s _ hi2]
          omega
        · have := e2.2 d hd
          rw [dayCount_app] at this
          rw [cnt_fn s d (by omega) _ (by omega)]
          unfold leftOn
          have : dayCount s d = ((s.count (d : Int) : Nat) : Int) := rfl
          omega
    rw [hv] at hr
    exact hr
  · intro hf
    have := hP.2 (fun hp => hf (hiff.2 hp))
    rw [this] at hr
    exact hr
/-- What holds of a beginning that leads to the best. -/
def Lead (q : List Int) : Prop := okPlan h D q ∧ q.length ≤ l.length ∧ tryV l h D q = tryV l h D []
omit hok hl in
theorem lead_nil (hh : 0 ≤ h) : Lead l h D [] := ⟨⟨by simp, fun d _ => by unfold dayCount; simpa using hh⟩, Nat.zero_le _, rfl⟩
omit hok in
theorem lead_step (hD : D ≤ 20) (q : List Int) (hq : Lead l h D q) (hlt : q.length < l.length) : ∃ d, dayList.find? (fun d => decide (plannedAt l h D q d)) = some d ∧ -1 ≤ d ∧ d < (D : Int) ∧ plannedAt l h D q d ∧ (∀ d', -1 ≤ d' → d' < d → ¬ plannedAt l h D q d') ∧ Lead l h D (q ++ [d]) := by
  obtain ⟨r, h1, h2, h3⟩ := tryV_at l h D hl q hq.2.1 hq.1
  cases r with
  | nil => rw [List.append_nil] at h1; omega
  | cons d0 r =>
    have e : q ++ d0 :: r = (q ++ [d0]) ++ r := by simp
    rw [e] at h1 h2 h3
    have hf0 := okPlan_prefix h D h2
    have hd0 := hf0.1 d0 (by simp)
    have hp0 : plannedAt l h D q d0 := by
      refine ⟨(feas_iff h D q d0 hq.1 hd0).1 hf0, ?_⟩
      have g1 := tryV_ge l h D hl (q ++ [d0]) r h2 h1
      have g2 := tryV_mono l h D hl q [d0] (by rw [List.length_append]; simp; omega) hf0
      rw [h3] at g1
      rw [← hq.2.2]
      omega
    cases hfind : dayList.find? (fun d => decide (plannedAt l h D q d)) with
    | none =>
      rw [List.find?_eq_none] at hfind
      have hm : d0 ∈ dayList := by
        unfold dayList
        rw [List.mem_map]
        exact ⟨(d0 + 1).toNat, List.mem_range.2 (by omega), by omega⟩
      exact absurd hp0 (by simpa using hfind d0 hm)
    | some d =>
      obtain ⟨a1, a2, a3, a4⟩ := dayList_find _ _ hfind
      have a3 : plannedAt l h D q d := by simpa using a3
      have a4 : ∀ d', -1 ≤ d' → d' < d → ¬ plannedAt l h D q d' := fun d' b1 b2 => by simpa using a4 d' b1 b2
      have hle : d ≤ d0 := by
        rcases Int.lt_or_le d0 d with hlt | hle
        · exact absurd hp0 (a4 d0 hd0.1 hlt)
        · exact hle
      have hdD : d < (D : Int) := by omega
      exact ⟨d, rfl, a1, hdD, a3, a4, (feas_iff h D q d hq.1 ⟨a1, hdD⟩).2 a3.1, by rw [List.length_append]; simp; omega, a3.2⟩
omit hok in
theorem go_step (hD : D ≤ 20) (n : Nat) : ∀ q, Lead l h D q → q.length + n = l.length → ∃ p, plannedGo l h D n q = some p ∧ Lead l h D p ∧ p.length = l.length := by
  induction n with
  | zero => intro q hq hn; exact ⟨q, rfl, hq, by omega⟩
  | succ n ih =>
    intro q hq hn
    obtain ⟨d, h1, _, _, _, _, h6⟩ := lead_step l h D hl hD q hq (by omega)
    obtain ⟨p, g1, g2, g3⟩ := ih (q ++ [d]) h6 (by rw [List.length_append]; simp; omega)
    exact ⟨p, by rw [plannedGo, h1]; exact g1, g2, g3⟩
/-- The program's plan is the reference's. -/
theorem best_go (hh : 0 ≤ h) (hh2 : h ≤ 3) (hD : D ≤ 20) (n : Nat) : ∀ q p, Lead l h D q → q.length + n = l.length → plannedGo l h D n q = some p →
    Ev (fun k => impl_bestPlan.l0 k l h D q (tryV l h D []) (l.length : Int) ((q.length : Nat) : Int)) (p, tryV l h D []) := by
  induction n with
  | zero =>
    intro q p hq hn hp
    simp only [plannedGo, Option.some.injEq] at hp
    subst hp
    refine Ev.step (fun k => ?_) (Ev.now _)
    rw [impl_bestPlan.l0, if_neg (by omega)]
  | succ n ih =>
    intro q p hq hn hp
    obtain ⟨d, h1, h2, h3, h4, h5, h6⟩ := lead_step l h D hl hD q hq (by omega)
    rw [plannedGo, h1] at hp
    have hrec := ih (q ++ [d]) p h6 (by rw [List.length_append]; simp; omega) hp
    have hnn := tryV_nonneg l h D hok hl q hq.2.1 hq.1
    rw [hq.2.2] at hnn
    have key : ∀ j : Nat, ∀ x : Int, -1 ≤ x → x ≤ d → (d - x).toNat = j → Ev (fun k => impl_bestPlan.l1 k l h D q (tryV l h D []) x (l.length : Int) ((q.length : Nat) : Int)) (p, tryV l h D []) := by
      intro j
      induction j with
      | zero =>
        intro x x1 x2 x3
        obtain rfl : x = d := by omega
        have hm := (most_val l h D hok hl hh hh2 hD (q ++ [x]) h6.2.1 h6.1.1).1 h6.1
        rw [h6.2.2] at hm
        have hb := Ev.bind (f := fun k t => if t < tryV l h D [] then impl_bestPlan.l1 k l h D q (tryV l h D []) (wrap64 (x + 1)) (l.length : Int) ((q.length : Nat) : Int) else (if q.length < 17592186044416 then (impl_bestPlan.l0 k l h D (q ++ [x]) (tryV l h D []) (l.length : Int) (wrap64 (((q.length : Nat) : Int) + 1))) else none)) hm (r := (p, tryV l h D [])) (by
          refine Ev.congr (fun k => ?_) hrec
          rw [if_neg (by omega), if_pos (by omega), wrap_nat _ (by omega), List.length_append]
          rfl)
        refine Ev.step (fun k => ?_) hb
        rw [impl_bestPlan.l1]
        unfold slices_Clone.f
        rw [if_pos (by omega)]
        simp only [Option.bind_some]
        rw [if_pos (by omega)]
      | succ j ihj =>
        intro x x1 x2 x3
        have hxd : x < d := by omega
        have hno := h5 x x1 hxd
        have hqx : ∀ e ∈ q ++ [x], -1 ≤ e ∧ e < (D : Int) := by
          intro e he
          rcases List.mem_append.1 he with he | he
          · exact hq.1.1 e he
          · rw [List.mem_singleton.1 he]; omega
        have hmv := most_val l h D hok hl hh hh2 hD (q ++ [x]) (by rw [List.length_append]; simp; omega) hqx
        obtain ⟨v, hv, hvlt⟩ : ∃ v, Ev (fun k => impl_most.f k l h D (q ++ [x])) v ∧ v < tryV l h D [] := by
          by_cases hf : okPlan h D (q ++ [x])
          · refine ⟨_, hmv.1 hf, ?_⟩
            have g1 := tryV_mono l h D hl q [x] (by rw [List.length_append]; simp; omega) hf
            rw [hq.2.2] at g1
            have : tryV l h D (q ++ [x]) ≠ tryV l h D [] := fun e => hno ⟨(feas_iff h D q x hq.1 ⟨x1, by omega⟩).1 hf, e⟩
            omega
          · exact ⟨-1, hmv.2 hf, by omega⟩
        have hb := Ev.bind (f := fun k t => if t < tryV l h D [] then impl_bestPlan.l1 k l h D q (tryV l h D []) (wrap64 (x + 1)) (l.length : Int) ((q.length : Nat) : Int) else (if q.length < 17592186044416 then (impl_bestPlan.l0 k l h D (q ++ [x]) (tryV l h D []) (l.length : Int) (wrap64 (((q.length : Nat) : Int) + 1))) else none)) hv (r := (p, tryV l h D [])) (by
          refine Ev.congr (fun k => ?_) (ihj (x + 1) (by omega) (by omega) (by omega))
          rw [if_pos hvlt, show wrap64 (x + 1) = x + 1 by unfold wrap64; omega])
        refine Ev.step (fun k => ?_) hb
        rw [impl_bestPlan.l1]
        unfold slices_Clone.f
        rw [if_pos (by omega)]
        simp only [Option.bind_some]
        rw [if_pos (by omega)]
    refine Ev.step (fun k => ?_) (key (d - -1).toNat (-1) (by omega) (by omega) rfl)
    rw [impl_bestPlan.l0, if_pos (by omega)]
/-- Both searches have one best plan. -/
theorem best_both (hh : 0 ≤ h) (hh2 : h ≤ 3) (hD : D ≤ 20) : ∃ p, spec_l07Planned.f l h D = some p ∧ okPlan h D p ∧ p.length = l.length ∧ planSum l p = tryV l h D [] ∧ Ev (fun k => impl_bestPlan.f k l h D) (p, tryV l h D []) := by
  obtain ⟨p, g1, g2, g3⟩ := go_step l h D hl hD l.length [] (lead_nil l h D hh) (by simp)
  refine ⟨p, ?_, g2.1, g3, ?_, ?_⟩
  · unfold spec_l07Planned.f
    rw [if_pos ⟨hl, hok, by omega, by omega, hh, hh2⟩, Int.toNat_natCast]
    exact g1
  · rw [← g2.2.2, tryV_full l h D hl p g3 g2.1]
  · have hb := best_go l h D hok hl hh hh2 hD l.length [] p (lead_nil l h D hh) (by simp) g1
    have hm := (most_val l h D hok hl hh hh2 hD [] (Nat.zero_le _) (by simp)).1 (lead_nil l h D hh).1
    exact Ev.bind (f := fun k t => impl_bestPlan.l0 k l h D (([] : List Int)) t (l.length : Int) 0) hm hb
end
end Go.Proofs.Ytokeeplkbgdokaa

/- Functions of the program as Lean functions, each with a proof that a call of it comes to just that. Written by this session's program wip/tools/myprint.py. -/
namespace Go.Proofs.Ytokeeplkbgdokaa.Pq
open Go.RowKit Go.Proofs.YtokeeplkbgdokaaW.PrintWords Go.Proofs.YtokeeplkbgdokaaW.PrintLast Go.Proofs.YtokeeplkbgdokaaW.PrintMore
attribute [local go_sem] max2_int min2_int max_two min_two max_three min_three max_four min_four   -- for this text's walks alone
set_option linter.unusedVariables false
set_option linter.unusedSimpArgs false

/-! ### impl_plotsCode: function 25 -/
def impl_plotsCode.f (k : Nat) (l0 : List (S40)) (a1 : Bool) : Option (Int) := (impl_ValidPlots.f k l0).bind fun t153 => (if t153 = true then (if a1 = true then (some 0) else (some 2)) else (some 1))
theorem impl_plotsCode.mono : ∀ a0 a1 k, LeO (impl_plotsCode.f k a0 a1) (impl_plotsCode.f (k + 1) a0 a1) := by
 intro a0 a1 k
 unfold impl_plotsCode.f
 repeat' first
   | (with_reducible exact impl_ValidPlots.mono _ _)
   | (with_reducible exact LeO.refl _)
   | (with_reducible exact LeO.none _)
   | (with_reducible refine LeO.ite ?_ ?_)
   | (with_reducible refine LeO.bind ?_ (fun _ => ?_))
   | exact impl_ValidPlots.mono _ _
   | exact LeO.none _
   | refine LeO.ite ?_ ?_
   | refine LeO.bind ?_ (fun _ => ?_)
set_option maxHeartbeats 8000000 in
set_option maxRecDepth 100000 in
theorem impl_plotsCode.calls (k : Nat) (A0 : Option Addr) (c0 : Nat) (l0 : List (S40)) (a1 : Bool) (r : Int) (w : World) (hr0 : Kd.C k40 w A0 l0.length l0) (hc0 : l0.length ≤ c0) (h : impl_plotsCode.f k l0 a1 = some r) :
  Calls Try.prog 25 #[.slice A0 l0.length c0, .bool a1] w fun e w' => e = .returned (.int .i64 r) ∧ Below w.heap.size w w' := by
 have HR0 := Aside0.mk hr0
 have HC0 := Aside0.mk hc0
 clear hr0 hc0
 have HB := Aside0.mk (Below.refl w.heap.size w)
 have H : ((impl_ValidPlots.f k l0).bind fun t153 => (if t153 = true then (if a1 = true then (some 0) else (some 2)) else (some 1))) = some r := h
 clear h
 replace H := Option.bind_eq_some_iff.mp H
 obtain ⟨t153, A30, H⟩ := H
 replace H : (if t153 = true then (if a1 = true then (some 0) else (some 2)) else (some 1)) = some r := H
 have A3 := Aside0.mk A30
 clear A30
 by_cases c4 : t153 = true
 ·subst c4
  have H1 : (if a1 = true then (some 0) else (some 2)) = some r := by rw [if_pos rfl] at H; exact H
  clear H
  have H := H1
  clear H1
  by_cases c5 : a1 = true
  ·subst c5
   have H1 : (some 0) = some r := by rw [if_pos rfl] at H; exact H
   clear H
   have H := H1
   clear H1
   obtain rfl := Option.some.inj H
   go_enter Try.func25, Try.ntmps25
   go_wp2_with (first | ((with_reducible refine gate_callee (f := 16) rfl ?_); refine goesL_ (some 7) rfl rfl Try.func16 (by kernel_rfl) rfl #[.slice A0 l0.length c0] rfl (by (try simp only [List.map_toArray, List.map_cons, List.map_nil]); first | done | rfl | (simp only [List.length_drop, List.length_take]; rfl)) ?_; (with_reducible refine (impl_ValidPlots.calls k _ _ l0 true _ ?side1 ?side2 A3.out).mono ?_); (case side1 => repeat (first | exact HR0.out | (with_reducible refine Kd.C_alloc ?_ _) | (with_reducible refine Kd.C_drewN ?_ _) | (with_reducible refine Kd.C_drew ?_))); (case side2 => exact HC0.out); rintro e w6 ⟨rfl, hb⟩; refine ⟨_, rfl, ?_⟩; have n0_ := Aside0.mk (below_step (by repeat (first | (with_reducible first | exact HB.out | apply below_alloc | apply pw_below_drewN | apply below_drew1) | exact HB.out)) hb); clear HB; have HB := n0_; clear n0_; (try clear hb); (try clear hb2); (try clear hk); (try clear hi)))
   go_ret
   exact ⟨by first | rfl | (simp [errW_none, errW_some] <;> rfl) | (simp [*, errW_none, errW_some] <;> rfl), by repeat (first | (with_reducible first | exact HB.out | apply below_alloc | apply pw_below_drewN | apply below_drew1) | exact HB.out)⟩
  ·replace c5 := Bool.eq_false_iff.mpr c5
   subst c5
   have H1 : (some 2) = some r := by rw [if_neg (show ¬ (false = true) by decide)] at H; exact H
   clear H
   have H := H1
   clear H1
   obtain rfl := Option.some.inj H
   go_enter Try.func25, Try.ntmps25
   go_wp2_with (first | ((with_reducible refine gate_callee (f := 16) rfl ?_); refine goesL_ (some 7) rfl rfl Try.func16 (by kernel_rfl) rfl #[.slice A0 l0.length c0] rfl (by (try simp only [List.map_toArray, List.map_cons, List.map_nil]); first | done | rfl | (simp only [List.length_drop, List.length_take]; rfl)) ?_; (with_reducible refine (impl_ValidPlots.calls k _ _ l0 true _ ?side1 ?side2 A3.out).mono ?_); (case side1 => repeat (first | exact HR0.out | (with_reducible refine Kd.C_alloc ?_ _) | (with_reducible refine Kd.C_drewN ?_ _) | (with_reducible refine Kd.C_drew ?_))); (case side2 => exact HC0.out); rintro e w7 ⟨rfl, hb⟩; refine ⟨_, rfl, ?_⟩; have n0_ := Aside0.mk (below_step (by repeat (first | (with_reducible first | exact HB.out | apply below_alloc | apply pw_below_drewN | apply below_drew1) | exact HB.out)) hb); clear HB; have HB := n0_; clear n0_; (try clear hb); (try clear hb2); (try clear hk); (try clear hi)))
   go_ret
   exact ⟨by first | rfl | (simp [errW_none, errW_some] <;> rfl) | (simp [*, errW_none, errW_some] <;> rfl), by repeat (first | (with_reducible first | exact HB.out | apply below_alloc | apply pw_below_drewN | apply below_drew1) | exact HB.out)⟩
 ·replace c4 := Bool.eq_false_iff.mpr c4
  subst c4
  have H1 : (some 1) = some r := by rw [if_neg (show ¬ (false = true) by decide)] at H; exact H
  clear H
  have H := H1
  clear H1
  obtain rfl := Option.some.inj H
  go_enter Try.func25, Try.ntmps25
  go_wp2_with (first | ((with_reducible refine gate_callee (f := 16) rfl ?_); refine goesL_ (some 7) rfl rfl Try.func16 (by kernel_rfl) rfl #[.slice A0 l0.length c0] rfl (by (try simp only [List.map_toArray, List.map_cons, List.map_nil]); first | done | rfl | (simp only [List.length_drop, List.length_take]; rfl)) ?_; (with_reducible refine (impl_ValidPlots.calls k _ _ l0 false _ ?side1 ?side2 A3.out).mono ?_); (case side1 => repeat (first | exact HR0.out | (with_reducible refine Kd.C_alloc ?_ _) | (with_reducible refine Kd.C_drewN ?_ _) | (with_reducible refine Kd.C_drew ?_))); (case side2 => exact HC0.out); rintro e w8 ⟨rfl, hb⟩; refine ⟨_, rfl, ?_⟩; have n0_ := Aside0.mk (below_step (by repeat (first | (with_reducible first | exact HB.out | apply below_alloc | apply pw_below_drewN | apply below_drew1) | exact HB.out)) hb); clear HB; have HB := n0_; clear n0_; (try clear hb); (try clear hb2); (try clear hk); (try clear hi)))
  go_ret
  exact ⟨by first | rfl | (simp [errW_none, errW_some] <;> rfl) | (simp [*, errW_none, errW_some] <;> rfl), by repeat (first | (with_reducible first | exact HB.out | apply below_alloc | apply pw_below_drewN | apply below_drew1) | exact HB.out)⟩

end Go.Proofs.Ytokeeplkbgdokaa.Pq

/- Functions of the program as Lean functions, each with a proof that a call of it comes to just that. Written by this session's program wip/tools/myprint.py. -/
namespace Go.Proofs.Ytokeeplkbgdokaa.Pq
open Go.RowKit Go.Proofs.YtokeeplkbgdokaaW.PrintWords Go.Proofs.YtokeeplkbgdokaaW.PrintLast Go.Proofs.YtokeeplkbgdokaaW.PrintMore
attribute [local go_sem] max2_int min2_int max_two min_two max_three min_three max_four min_four   -- for this text's walks alone
set_option linter.unusedVariables false
set_option linter.unusedSimpArgs false

/-! ### impl_areDays: function 27 -/
def impl_areDays.f (a0 : Int) : Option (Bool) := (impl_within.f a0 1 20).bind fun t155 => (some t155)
set_option maxHeartbeats 8000000 in
set_option maxRecDepth 100000 in
theorem impl_areDays.calls (a0 : Int) (r : Bool) (w : World) (h : impl_areDays.f a0 = some r) :
  Calls Try.prog 27 #[.int .i64 a0] w fun e w' => e = .returned (.bool r) ∧ Drawn0 w w' := by
 have H : ((impl_within.f a0 1 20).bind fun t155 => (some t155)) = some r := h
 clear h
 replace H := Option.bind_eq_some_iff.mp H
 obtain ⟨t155, A20, H⟩ := H
 replace H : (some t155) = some r := H
 have A2 := Aside0.mk A20
 clear A20
 obtain rfl := Option.some.inj H
 go_enter Try.func27, Try.ntmps27
 go_wp2_with (first | ((with_reducible refine gate_callee (f := 38) rfl ?_); refine goesL_ (some 4) rfl rfl Try.func38 (by kernel_rfl) rfl #[.int .i64 a0, .int .i64 1, .int .i64 20] rfl (by (try simp only [List.map_toArray, List.map_cons, List.map_nil]); first | done | rfl | (simp only [List.length_drop, List.length_take]; rfl)) ?_; (with_reducible refine (impl_within.calls a0 1 20 t155 _ A2.out).mono ?_); rintro e w' ⟨rfl, ⟨nd, rfl⟩⟩; refine ⟨_, rfl, ?_⟩))
 go_ret
 exact ⟨by first | rfl | (simp; done) | (simp [*]; done), by repeat (first | exact Drawn0.refl _ | apply Drawn0.step)⟩

end Go.Proofs.Ytokeeplkbgdokaa.Pq

/- Functions of the program as Lean functions, each with a proof that a call of it comes to just that. Written by this session's program wip/tools/myprint.py. -/
namespace Go.Proofs.Ytokeeplkbgdokaa.Pq
open Go.RowKit Go.Proofs.YtokeeplkbgdokaaW.PrintWords Go.Proofs.YtokeeplkbgdokaaW.PrintLast Go.Proofs.YtokeeplkbgdokaaW.PrintMore
attribute [local go_sem] max2_int min2_int max_two min_two max_three min_three max_four min_four   -- for this text's walks alone
set_option linter.unusedVariables false
set_option linter.unusedSimpArgs false

/-! ### impl_BestPlan: function 7 -/
def impl_BestPlan.f (k : Nat) (l0 : List (S40)) (a1 : Int) (a2 : Int) : Option (List Int × Int × Int) := (impl_areHands.f a1).bind fun t211 => (if t211 = true then ((impl_areDays.f a2).bind fun t212 => ((impl_plotsCode.f k l0 t212).bind fun t213 => (if t213 = 0 then ((impl_bestPlan.f k l0 a1 a2).bind fun bt214 => (some (bt214.1, bt214.2, 0))) else (some (([] : List Int), 0, t213))))) else ((impl_plotsCode.f k l0 false).bind fun t218 => (if t218 = 0 then ((impl_bestPlan.f k l0 a1 a2).bind fun bt219 => (some (bt219.1, bt219.2, 0))) else (some (([] : List Int), 0, t218)))))
theorem impl_BestPlan.mono : ∀ a0 a1 a2 k, LeO (impl_BestPlan.f k a0 a1 a2) (impl_BestPlan.f (k + 1) a0 a1 a2) := by
 intro a0 a1 a2 k
 unfold impl_BestPlan.f
 repeat' first
   | (with_reducible exact impl_bestPlan.mono _ _ _ _)
   | (with_reducible exact impl_plotsCode.mono _ _ _)
   | (with_reducible exact LeO.refl _)
   | (with_reducible exact LeO.none _)
   | (with_reducible refine LeO.ite ?_ ?_)
   | (with_reducible refine LeO.bind ?_ (fun _ => ?_))
   | exact impl_bestPlan.mono _ _ _ _
   | exact impl_plotsCode.mono _ _ _
   | exact LeO.none _
   | refine LeO.ite ?_ ?_
   | refine LeO.bind ?_ (fun _ => ?_)
set_option maxHeartbeats 8000000 in
set_option maxRecDepth 100000 in
theorem impl_BestPlan.calls (k : Nat) (A0 : Option Addr) (c0 : Nat) (l0 : List (S40)) (a1 : Int) (a2 : Int) (r1 : List Int) (r2 : Int) (r3 : Int) (w : World) (hr0 : Kd.C k40 w A0 l0.length l0) (hc0 : l0.length ≤ c0) (h : impl_BestPlan.f k l0 a1 a2 = some (r1, r2, r3)) :
  Calls Try.prog 7 #[.slice A0 l0.length c0, .int .i64 a1, .int .i64 a2] w fun e w' => ∃ v0_ : Value, e = .returned (.tuple #[v0_, .int .i64 r2, .int .i64 r3]) ∧ Kd.R (Kd.int .i64) 2 w' w.heap.size (fun _ => True) v0_ r1 ∧ Below w.heap.size w w' := by
 have HR0 := Aside0.mk hr0
 have HC0 := Aside0.mk hc0
 clear hr0 hc0
 have HB := Aside0.mk (Below.refl w.heap.size w)
 have H : ((impl_areHands.f a1).bind fun t211 => (if t211 = true then ((impl_areDays.f a2).bind fun t212 => ((impl_plotsCode.f k l0 t212).bind fun t213 => (if t213 = 0 then ((impl_bestPlan.f k l0 a1 a2).bind fun bt214 => (some (bt214.1, bt214.2, 0))) else (some (([] : List Int), 0, t213))))) else ((impl_plotsCode.f k l0 false).bind fun t218 => (if t218 = 0 then ((impl_bestPlan.f k l0 a1 a2).bind fun bt219 => (some (bt219.1, bt219.2, 0))) else (some (([] : List Int), 0, t218)))))) = some (r1, r2, r3) := h
 clear h
 replace H := Option.bind_eq_some_iff.mp H
 obtain ⟨t211, A40, H⟩ := H
 replace H : (if t211 = true then ((impl_areDays.f a2).bind fun t212 => ((impl_plotsCode.f k l0 t212).bind fun t213 => (if t213 = 0 then ((impl_bestPlan.f k l0 a1 a2).bind fun bt214 => (some (bt214.1, bt214.2, 0))) else (some (([] : List Int), 0, t213))))) else ((impl_plotsCode.f k l0 false).bind fun t218 => (if t218 = 0 then ((impl_bestPlan.f k l0 a1 a2).bind fun bt219 => (some (bt219.1, bt219.2, 0))) else (some (([] : List Int), 0, t218))))) = some (r1, r2, r3) := H
 have A4 := Aside0.mk A40
 clear A40
 by_cases c5 : t211 = true
 ·subst c5
  have H1 : ((impl_areDays.f a2).bind fun t212 => ((impl_plotsCode.f k l0 t212).bind fun t213 => (if t213 = 0 then ((impl_bestPlan.f k l0 a1 a2).bind fun bt214 => (some (bt214.1, bt214.2, 0))) else (some (([] : List Int), 0, t213))))) = some (r1, r2, r3) := by rw [if_pos rfl] at H; exact H
  clear H
  have H := H1
  clear H1
  replace H := Option.bind_eq_some_iff.mp H
  obtain ⟨t212, A60, H⟩ := H
  replace H : ((impl_plotsCode.f k l0 t212).bind fun t213 => (if t213 = 0 then ((impl_bestPlan.f k l0 a1 a2).bind fun bt214 => (some (bt214.1, bt214.2, 0))) else (some (([] : List Int), 0, t213)))) = some (r1, r2, r3) := H
  have A6 := Aside0.mk A60
  clear A60
  replace H := Option.bind_eq_some_iff.mp H
  obtain ⟨t213, A70, H⟩ := H
  replace H : (if t213 = 0 then ((impl_bestPlan.f k l0 a1 a2).bind fun bt214 => (some (bt214.1, bt214.2, 0))) else (some (([] : List Int), 0, t213))) = some (r1, r2, r3) := H
  have A7 := Aside0.mk A70
  clear A70
  by_cases c8 : t213 = 0
  ·rw [if_pos c8] at H
   have c8b0 : (t213 == 0) = true := beq_iff_eq.mpr c8
   have c8b1 : (t213 != 0) = false := bne_eq_false_iff_eq.mpr c8
   clear c8
   replace H := Option.bind_eq_some_iff.mp H
   obtain ⟨⟨t214, t215⟩, A90, H⟩ := H
   replace H : (some (t214, t215, 0)) = some (r1, r2, r3) := H
   have A9 := Aside0.mk A90
   clear A90
   simp only [Option.some.injEq, Prod.mk.injEq] at H
   obtain ⟨rfl, rfl, rfl⟩ := H
   go_enter Try.func7, Try.ntmps7
   go_wp2_with (first | ((with_reducible refine gate_callee (f := 26) rfl ?_); refine goesL_ (some 14) rfl rfl Try.func26 (by kernel_rfl) rfl #[.int .i64 a1] rfl (by (try simp only [List.map_toArray, List.map_cons, List.map_nil]); first | done | rfl | (simp only [List.length_drop, List.length_take]; rfl)) ?_; (with_reducible refine (impl_areHands.calls a1 true _ A4.out).mono ?_); rintro e w' ⟨rfl, ⟨nd, rfl⟩⟩; refine ⟨_, rfl, ?_⟩) | (go_at_call 27; (with_reducible refine (impl_areDays.calls a2 t212 _ A6.out).mono ?_); rintro e w' ⟨rfl, ⟨nd, rfl⟩⟩) | ((with_reducible refine gate_callee (f := 25) rfl ?_); refine goesL_ (some 19) rfl rfl Try.func25 (by kernel_rfl) rfl #[.slice A0 l0.length c0, .bool t212] rfl (by (try simp only [List.map_toArray, List.map_cons, List.map_nil]); first | done | rfl | (simp only [List.length_drop, List.length_take]; rfl)) ?_; (with_reducible refine (impl_plotsCode.calls k _ _ l0 t212 t213 _ ?side1 ?side2 A7.out).mono ?_); (case side1 => repeat (first | exact HR0.out | (with_reducible refine Kd.C_alloc ?_ _) | (with_reducible refine Kd.C_drewN ?_ _) | (with_reducible refine Kd.C_drew ?_))); (case side2 => exact HC0.out); rintro e w10 ⟨rfl, hb⟩; refine ⟨_, rfl, ?_⟩; have n0_ := Aside0.mk (below_step (by repeat (first | (with_reducible first | exact HB.out | apply below_alloc | apply pw_below_drewN | apply below_drew1) | exact HB.out)) hb); clear HB; have HB := n0_; clear n0_; (try clear hb); (try clear hb2); (try clear hk); (try clear hi)) | ((with_reducible refine gate_callee (f := 28) rfl ?_); refine goesL_ (some 27) rfl rfl Try.func28 (by kernel_rfl) rfl #[.slice A0 l0.length c0, .int .i64 a1, .int .i64 a2] rfl (by (try simp only [List.map_toArray, List.map_cons, List.map_nil]); first | done | rfl | (simp only [List.length_drop, List.length_take]; rfl)) ?_; (with_reducible refine (impl_bestPlan.calls k _ _ l0 a1 a2 t214 t215 _ ?side1 ?side2 A9.out).mono ?_); (case side1 => repeat (first | exact (Kd.C_below HR0.out HB.out) | (with_reducible refine Kd.C_alloc ?_ _) | (with_reducible refine Kd.C_drewN ?_ _) | (with_reducible refine Kd.C_drew ?_))); (case side2 => exact HC0.out); rintro e w11 ⟨v216, rfl, ho0, hb⟩; refine ⟨_, rfl, ?_⟩; have n0_ := Aside0.mk (Kd.R_lower ho0 (below_size (by repeat (first | (with_reducible first | exact HB.out | apply below_alloc | apply pw_below_drewN | apply below_drew1) | exact HB.out)))); have n1_ := Aside0.mk (below_step (by repeat (first | (with_reducible first | exact HB.out | apply below_alloc | apply pw_below_drewN | apply below_drew1) | exact HB.out)) hb); clear HB; have HO217 := n0_; have HB := n1_; clear n0_ n1_; (try clear hb); (try clear hb2); (try clear hk); (try clear hi); (try clear ho0)))
   go_ret3
   exact ⟨_, by first | rfl | (simp [errW_none, errW_some] <;> rfl) | (simp [*, errW_none, errW_some] <;> rfl), by (with_reducible repeat (first | apply Kd.R_alloc | apply Kd.R_drewN | apply Kd.R_drew)); exact HO217.out, by repeat (first | (with_reducible first | exact HB.out | apply below_alloc | apply pw_below_drewN | apply below_drew1) | exact HB.out)⟩
  ·rw [if_neg c8] at H
   have c8b0 : (t213 == 0) = false := beq_eq_false_iff_ne.mpr c8
   have c8b1 : (t213 != 0) = true := bne_iff_ne.mpr c8
   simp only [Option.some.injEq, Prod.mk.injEq] at H
   obtain ⟨rfl, rfl, rfl⟩ := H
   go_enter Try.func7, Try.ntmps7
   go_wp2_with (first | ((with_reducible refine gate_callee (f := 26) rfl ?_); refine goesL_ (some 14) rfl rfl Try.func26 (by kernel_rfl) rfl #[.int .i64 a1] rfl (by (try simp only [List.map_toArray, List.map_cons, List.map_nil]); first | done | rfl | (simp only [List.length_drop, List.length_take]; rfl)) ?_; (with_reducible refine (impl_areHands.calls a1 true _ A4.out).mono ?_); rintro e w' ⟨rfl, ⟨nd, rfl⟩⟩; refine ⟨_, rfl, ?_⟩) | (go_at_call 27; (with_reducible refine (impl_areDays.calls a2 t212 _ A6.out).mono ?_); rintro e w' ⟨rfl, ⟨nd, rfl⟩⟩) | ((with_reducible refine gate_callee (f := 25) rfl ?_); refine goesL_ (some 19) rfl rfl Try.func25 (by kernel_rfl) rfl #[.slice A0 l0.length c0, .bool t212] rfl (by (try simp only [List.map_toArray, List.map_cons, List.map_nil]); first | done | rfl | (simp only [List.length_drop, List.length_take]; rfl)) ?_; (with_reducible refine (impl_plotsCode.calls k _ _ l0 t212 t213 _ ?side1 ?side2 A7.out).mono ?_); (case side1 => repeat (first | exact HR0.out | (with_reducible refine Kd.C_alloc ?_ _) | (with_reducible refine Kd.C_drewN ?_ _) | (with_reducible refine Kd.C_drew ?_))); (case side2 => exact HC0.out); rintro e w12 ⟨rfl, hb⟩; refine ⟨_, rfl, ?_⟩; have n0_ := Aside0.mk (below_step (by repeat (first | (with_reducible first | exact HB.out | apply below_alloc | apply pw_below_drewN | apply below_drew1) | exact HB.out)) hb); clear HB; have HB := n0_; clear n0_; (try clear hb); (try clear hb2); (try clear hk); (try clear hi)))
   go_ret3
   exact ⟨_, by first | rfl | (simp [errW_none, errW_some] <;> rfl) | (simp [*, errW_none, errW_some] <;> rfl), by first | exact Kd.R_nil _ _ _ _ _ | exact Kd.N_nil _ _ _ _ _ | exact Kd.V_nil _ _ _ _ _ | exact Kd.Q_nil _ _ _ _ _ | exact Kd.S_nil _ _ _ _ _, by repeat (first | (with_reducible first | exact HB.out | apply below_alloc | apply pw_below_drewN | apply below_drew1) | exact HB.out)⟩
 ·replace c5 := Bool.eq_false_iff.mpr c5
  subst c5
  have H1 : ((impl_plotsCode.f k l0 false).bind fun t218 => (if t218 = 0 then ((impl_bestPlan.f k l0 a1 a2).bind fun bt219 => (some (bt219.1, bt219.2, 0))) else (some (([] : List Int), 0, t218)))) = some (r1, r2, r3) := by rw [if_neg (show ¬ (false = true) by decide)] at H; exact H
  clear H
  have H := H1
  clear H1
  replace H := Option.bind_eq_some_iff.mp H
  obtain ⟨t218, A130, H⟩ := H
  replace H : (if t218 = 0 then ((impl_bestPlan.f k l0 a1 a2).bind fun bt219 => (some (bt219.1, bt219.2, 0))) else (some (([] : List Int), 0, t218))) = some (r1, r2, r3) := H
  have A13 := Aside0.mk A130
  clear A130
  by_cases c14 : t218 = 0
  ·rw [if_pos c14] at H
   have c14b0 : (t218 == 0) = true := beq_iff_eq.mpr c14
   have c14b1 : (t218 != 0) = false := bne_eq_false_iff_eq.mpr c14
   clear c14
   replace H := Option.bind_eq_some_iff.mp H
   obtain ⟨⟨t219, t220⟩, A150, H⟩ := H
   replace H : (some (t219, t220, 0)) = some (r1, r2, r3) := H
   have A15 := Aside0.mk A150
   clear A150
   simp only [Option.some.injEq, Prod.mk.injEq] at H
   obtain ⟨rfl, rfl, rfl⟩ := H
   go_enter Try.func7, Try.ntmps7
   go_wp2_with (first | ((with_reducible refine gate_callee (f := 26) rfl ?_); refine goesL_ (some 14) rfl rfl Try.func26 (by kernel_rfl) rfl #[.int .i64 a1] rfl (by (try simp only [List.map_toArray, List.map_cons, List.map_nil]); first | done | rfl | (simp only [List.length_drop, List.length_take]; rfl)) ?_; (with_reducible refine (impl_areHands.calls a1 false _ A4.out).mono ?_); rintro e w' ⟨rfl, ⟨nd, rfl⟩⟩; refine ⟨_, rfl, ?_⟩) | ((with_reducible refine gate_callee (f := 25) rfl ?_); refine goesL_ (some 19) rfl rfl Try.func25 (by kernel_rfl) rfl #[.slice A0 l0.length c0, .bool false] rfl (by (try simp only [List.map_toArray, List.map_cons, List.map_nil]); first | done | rfl | (simp only [List.length_drop, List.length_take]; rfl)) ?_; (with_reducible refine (impl_plotsCode.calls k _ _ l0 false t218 _ ?side1 ?side2 A13.out).mono ?_); (case side1 => repeat (first | exact HR0.out | (with_reducible refine Kd.C_alloc ?_ _) | (with_reducible refine Kd.C_drewN ?_ _) | (with_reducible refine Kd.C_drew ?_))); (case side2 => exact HC0.out); rintro e w16 ⟨rfl, hb⟩; refine ⟨_, rfl, ?_⟩; have n0_ := Aside0.mk (below_step (by repeat (first | (with_reducible first | exact HB.out | apply below_alloc | apply pw_below_drewN | apply below_drew1) | exact HB.out)) hb); clear HB; have HB := n0_; clear n0_; (try clear hb); (try clear hb2); (try clear hk); (try clear hi)) | ((with_reducible refine gate_callee (f := 28) rfl ?_); refine goesL_ (some 27) rfl rfl Try.func28 (by kernel_rfl) rfl #[.slice A0 l0.length c0, .int .i64 a1, .int .i64 a2] rfl (by (try simp only [List.map_toArray, List.map_cons, List.map_nil]); first | done | rfl | (simp only [List.length_drop, List.length_take]; rfl)) ?_; (with_reducible refine (impl_bestPlan.calls k _ _ l0 a1 a2 t219 t220 _ ?side1 ?side2 A15.out).mono ?_); (case side1 => repeat (first | exact (Kd.C_below HR0.out HB.out) | (with_reducible refine Kd.C_alloc ?_ _) | (with_reducible refine Kd.C_drewN ?_ _) | (with_reducible refine Kd.C_drew ?_))); (case side2 => exact HC0.out); rintro e w17 ⟨v221, rfl, ho0, hb⟩; refine ⟨_, rfl, ?_⟩; have n0_ := Aside0.mk (Kd.R_lower ho0 (below_size (by repeat (first | (with_reducible first | exact HB.out | apply below_alloc | apply pw_below_drewN | apply below_drew1) | exact HB.out)))); have n1_ := Aside0.mk (below_step (by repeat (first | (with_reducible first | exact HB.out | apply below_alloc | apply pw_below_drewN | apply below_drew1) | exact HB.out)) hb); clear HB; have HO222 := n0_; have HB := n1_; clear n0_ n1_; (try clear hb); (try clear hb2); (try clear hk); (try clear hi); (try clear ho0)))
   go_ret3
   exact ⟨_, by first | rfl | (simp [errW_none, errW_some] <;> rfl) | (simp [*, errW_none, errW_some] <;> rfl), by (with_reducible repeat (first | apply Kd.R_alloc | apply Kd.R_drewN | apply Kd.R_drew)); exact HO222.out, by repeat (first | (with_reducible first | exact HB.out | apply below_alloc | apply pw_below_drewN | apply below_drew1) | exact HB.out)⟩
  ·rw [if_neg c14] at H
   have c14b0 : (t218 == 0) = false := beq_eq_false_iff_ne.mpr c14
   have c14b1 : (t218 != 0) = true := bne_iff_ne.mpr c14
   simp only [Option.some.injEq, Prod.mk.injEq] at H
   obtain ⟨rfl, rfl, rfl⟩ := H
   go_enter Try.func7, Try.ntmps7
   go_wp2_with (first | ((with_reducible refine gate_callee (f := 26) rfl ?_); refine goesL_ (some 14) rfl rfl Try.func26 (by kernel_rfl) rfl #[.int .i64 a1] rfl (by (try simp only [List.map_toArray, List.map_cons, List.map_nil]); first | done | rfl | (simp only [List.length_drop, List.length_take]; rfl)) ?_; (with_reducible refine (impl_areHands.calls a1 false _ A4.out).mono ?_); rintro e w' ⟨rfl, ⟨nd, rfl⟩⟩; refine ⟨_, rfl, ?_⟩) | ((with_reducible refine gate_callee (f := 25) rfl ?_); refine goesL_ (some 19) rfl rfl Try.func25 (by kernel_rfl) rfl #[.slice A0 l0.length c0, .bool false] rfl (by (try simp only [List.map_toArray, List.map_cons, List.map_nil]); first | done | rfl | (simp only [List.length_drop, List.length_take]; rfl)) ?_; (with_reducible refine (impl_plotsCode.calls k _ _ l0 false t218 _ ?side1 ?side2 A13.out).mono ?_); (case side1 => repeat (first | exact HR0.out | (with_reducible refine Kd.C_alloc ?_ _) | (with_reducible refine Kd.C_drewN ?_ _) | (with_reducible refine Kd.C_drew ?_))); (case side2 => exact HC0.out); rintro e w18 ⟨rfl, hb⟩; refine ⟨_, rfl, ?_⟩; have n0_ := Aside0.mk (below_step (by repeat (first | (with_reducible first | exact HB.out | apply below_alloc | apply pw_below_drewN | apply below_drew1) | exact HB.out)) hb); clear HB; have HB := n0_; clear n0_; (try clear hb); (try clear hb2); (try clear hk); (try clear hi)))
   go_ret3
   exact ⟨_, by first | rfl | (simp [errW_none, errW_some] <;> rfl) | (simp [*, errW_none, errW_some] <;> rfl), by first | exact Kd.R_nil _ _ _ _ _ | exact Kd.N_nil _ _ _ _ _ | exact Kd.V_nil _ _ _ _ _ | exact Kd.Q_nil _ _ _ _ _ | exact Kd.S_nil _ _ _ _ _, by repeat (first | (with_reducible first | exact HB.out | apply below_alloc | apply pw_below_drewN | apply below_drew1) | exact HB.out)⟩

end Go.Proofs.Ytokeeplkbgdokaa.Pq

/- Functions of the program as Lean functions, each with a proof that a call of it comes to just that. Written by this session's program wip/tools/myprint.py. -/
namespace Go.Proofs.Ytokeeplkbgdokaa.Pq
open Go.RowKit Go.Proofs.YtokeeplkbgdokaaW.PrintWords Go.Proofs.YtokeeplkbgdokaaW.PrintLast Go.Proofs.YtokeeplkbgdokaaW.PrintMore
attribute [local go_sem] max2_int min2_int max_two min_two max_three min_three max_four min_four   -- for this text's walks alone
set_option linter.unusedVariables false
set_option linter.unusedSimpArgs false

/-! ### spec_l01Seeds: function 58 -/
def spec_l01Seeds.f (a0 : Int) : Option (Bool) := (spec_l00In.f a0 0 1000).bind fun t223 => (some t223)
set_option maxHeartbeats 8000000 in
set_option maxRecDepth 100000 in
theorem spec_l01Seeds.calls (a0 : Int) (r : Bool) (w : World) (h : spec_l01Seeds.f a0 = some r) :
  Calls Try.prog 58 #[.int .i64 a0] w fun e w' => e = .returned (.bool r) ∧ Drawn0 w w' := by
 have H : ((spec_l00In.f a0 0 1000).bind fun t223 => (some t223)) = some r := h
 clear h
 replace H := Option.bind_eq_some_iff.mp H
 obtain ⟨t223, A20, H⟩ := H
 replace H : (some t223) = some r := H
 have A2 := Aside0.mk A20
 clear A20
 obtain rfl := Option.some.inj H
 go_enter Try.func58, Try.ntmps58
 go_wp2_with (first | ((with_reducible refine gate_callee (f := 50) rfl ?_); refine goesL_ (some 4) rfl rfl Try.func50 (by kernel_rfl) rfl #[.int .i64 a0, .int .i64 0, .int .i64 1000] rfl (by (try simp only [List.map_toArray, List.map_cons, List.map_nil]); first | done | rfl | (simp only [List.length_drop, List.length_take]; rfl)) ?_; (with_reducible refine (spec_l00In.calls a0 0 1000 t223 _ A2.out).mono ?_); rintro e w' ⟨rfl, ⟨nd, rfl⟩⟩; refine ⟨_, rfl, ?_⟩))
 go_ret
 exact ⟨by first | rfl | (simp; done) | (simp [*]; done), by repeat (first | exact Drawn0.refl _ | apply Drawn0.step)⟩

end Go.Proofs.Ytokeeplkbgdokaa.Pq

/- Functions of the program as Lean functions, each with a proof that a call of it comes to just that. Written by this session's program wip/tools/myprint.py. -/
namespace Go.Proofs.Ytokeeplkbgdokaa.Pq
open Go.RowKit Go.Proofs.YtokeeplkbgdokaaW.PrintWords Go.Proofs.YtokeeplkbgdokaaW.PrintLast Go.Proofs.YtokeeplkbgdokaaW.PrintMore
attribute [local go_sem] max2_int min2_int max_two min_two max_three min_three max_four min_four   -- for this text's walks alone
set_option linter.unusedVariables false
set_option linter.unusedSimpArgs false

/-! ### spec_l07Plot: function 55 -/
def spec_l07Plot.j0 : Nat → Bool → Int → Int → Int → Int → Option (Bool)
 | 0, _, _, _, _, _ => none
 | k + 1, x14, x225000, x225001, x225002, x225003 => if x14 = true then (some false) else ((spec_l00In.f (wrap64 (x225001)) 0 20).bind fun t227 => (if t227 = true then ((spec_l00In.f (wrap64 (x225002)) 0 20).bind fun t228 => (some t228)) else (some false)))
def spec_l07Plot.f (k : Nat) (a0_0 : Int) (a0_1 : Int) (a0_2 : Int) (a0_3 : Int) : Option (Bool) := (spec_l01Seeds.f (wrap64 (a0_0))).bind fun t225 => (if t225 = true then ((spec_l01Seeds.f (wrap64 (a0_3))).bind fun t226 => (spec_l07Plot.j0 k (!t226) a0_0 a0_1 a0_2 a0_3)) else (spec_l07Plot.j0 k true a0_0 a0_1 a0_2 a0_3))
theorem spec_l07Plot.mono_l : ∀ k, (∀ y0 y1 y2 y3 y4, LeO (spec_l07Plot.j0 k y0 y1 y2 y3 y4) (spec_l07Plot.j0 (k + 1) y0 y1 y2 y3 y4))
 | 0 => fun _ _ _ _ _ r h => by simp [spec_l07Plot.j0] at h
 | k + 1 => by
  have ih0 := spec_l07Plot.mono_l k
  ·intro y0 y1 y2 y3 y4
   unfold spec_l07Plot.j0
   repeat' first
   | (with_reducible exact ih0 _ _ _ _ _)
   | (with_reducible exact LeO.refl _)
   | (with_reducible exact LeO.none _)
   | (with_reducible refine LeO.ite ?_ ?_)
   | (with_reducible refine LeO.bind ?_ (fun _ => ?_))
   | exact ih0 _ _ _ _ _
   | exact LeO.none _
   | refine LeO.ite ?_ ?_
   | refine LeO.bind ?_ (fun _ => ?_)
theorem spec_l07Plot.mono : ∀ a0 a1 a2 a3 k, LeO (spec_l07Plot.f k a0 a1 a2 a3) (spec_l07Plot.f (k + 1) a0 a1 a2 a3) := by
 intro a0 a1 a2 a3 k
 have ih0 := spec_l07Plot.mono_l k
 unfold spec_l07Plot.f
 repeat' first
   | (with_reducible exact ih0 _ _ _ _ _)
   | (with_reducible exact LeO.refl _)
   | (with_reducible exact LeO.none _)
   | (with_reducible refine LeO.ite ?_ ?_)
   | (with_reducible refine LeO.bind ?_ (fun _ => ?_))
   | exact ih0 _ _ _ _ _
   | exact LeO.none _
   | refine LeO.ite ?_ ?_
   | refine LeO.bind ?_ (fun _ => ?_)
set_option maxHeartbeats 8000000 in
set_option maxRecDepth 100000 in
theorem spec_l07Plot.calls (k : Nat) (a0_0 : Int) (a0_1 : Int) (a0_2 : Int) (a0_3 : Int) (r : Bool) (w : World) (h : spec_l07Plot.f k a0_0 a0_1 a0_2 a0_3 = some r) :
  Calls Try.prog 55 #[.agg #[.int .i16 a0_0, .int .i16 a0_1, .int .i16 a0_2, .int .i16 a0_3]] w fun e w' => e = .returned (.bool r) ∧ Below w.heap.size w w' := by
 have hu40 := Try.underlying40
 have HB := Aside0.mk (Below.refl w.heap.size w)
 have H : ((spec_l01Seeds.f (wrap64 (a0_0))).bind fun t225 => (if t225 = true then ((spec_l01Seeds.f (wrap64 (a0_3))).bind fun t226 => (spec_l07Plot.j0 k (!t226) a0_0 a0_1 a0_2 a0_3)) else (spec_l07Plot.j0 k true a0_0 a0_1 a0_2 a0_3))) = some r := h
 clear h
 have HC2 := Aside0.mk H
 clear H
 go_enter Try.func55, Try.ntmps55
 go_upto_region 1 with (first | ((with_reducible refine gate_dst (N := 1) rfl ?_); refine box_event ?hg (N := 1) ?hd (cs := #[.int .i16 a0_0, .int .i16 a0_1, .int .i16 a0_2, .int .i16 a0_3]) (t := 40) ?hr ?_; (case hd => rfl); (case hg => rfl); (case hr => first | (go_simp; done) | (go_simp; rfl)); intro gb224 hg w3 hbox hb; have n0_ := Aside0.mk (below_step (by repeat (first | (with_reducible first | exact HB.out | apply below_alloc | apply pw_below_drewN | apply below_drew1) | exact HB.out)) hb); have n1_ := Aside0.mk (hbox); have n2_ := Aside0.mk ((by rw [hg]; exact (below_size (by repeat (first | (with_reducible first | exact HB.out | apply below_alloc | apply pw_below_drewN | apply below_drew1) | exact HB.out))) : w.heap.size ≤ gb224)); have n3_ := Aside0.mk ((by rw [hg]; exact (below_size (by repeat (first | (with_reducible first | exact HB.out | apply below_alloc | apply pw_below_drewN | apply below_drew1) | exact HB.out))) : w.heap.size ≤ gb224)); clear HB; have HB := n0_; have BK224 := n1_; have GW224 := n2_; have GE224 := n3_; clear n0_ n1_ n2_ n3_; clear hb hbox hg))
 (try simp only [Act.put, List.setIfInBounds_toArray, List.set_cons_zero, List.set_cons_succ])
 go_cut [14] (fun v14 wc => ∃ (kq : Nat) (x14_1 : Bool), v14 = .bool x14_1 ∧ Aside0 (spec_l07Plot.j0 kq x14_1 a0_0 a0_1 a0_2 a0_3 = some r) ∧ Aside0 (kq ≤ k) ∧ Aside0 (wc.heap[gb224]? = some (.cells #[.int .i16 a0_0, .int .i16 a0_1, .int .i16 a0_2, .int .i16 a0_3] 40 (0, 0))) ∧ Aside0 (Below w.heap.size w wc))
 case first =>
  have H := HC2.out
  clear HC2
  replace H := Option.bind_eq_some_iff.mp H
  obtain ⟨t225, A40, H⟩ := H
  replace H : (if t225 = true then ((spec_l01Seeds.f (wrap64 (a0_3))).bind fun t226 => (spec_l07Plot.j0 k (!t226) a0_0 a0_1 a0_2 a0_3)) else (spec_l07Plot.j0 k true a0_0 a0_1 a0_2 a0_3)) = some r := H
  have A4 := Aside0.mk A40
  clear A40
  by_cases c5 : t225 = true
  ·subst c5
   have H1 : ((spec_l01Seeds.f (wrap64 (a0_3))).bind fun t226 => (spec_l07Plot.j0 k (!t226) a0_0 a0_1 a0_2 a0_3)) = some r := by rw [if_pos rfl] at H; exact H
   clear H
   have H := H1
   clear H1
   replace H := Option.bind_eq_some_iff.mp H
   obtain ⟨t226, A60, H⟩ := H
   replace H : (spec_l07Plot.j0 k (!t226) a0_0 a0_1 a0_2 a0_3) = some r := H
   have A6 := Aside0.mk A60
   clear A60
   have H' := Aside0.mk H
   clear H
   have hcz7_0 : w3.cell? ⟨gb224, 0, none⟩ = some (.int .i16 a0_0) := (blk_cell BK224.out 0).trans rfl
   have hcz7_1 : w3.cell? ⟨gb224, 1, none⟩ = some (.int .i16 a0_1) := (blk_cell BK224.out 1).trans rfl
   have hcz7_2 : w3.cell? ⟨gb224, 2, none⟩ = some (.int .i16 a0_2) := (blk_cell BK224.out 2).trans rfl
   have hcz7_3 : w3.cell? ⟨gb224, 3, none⟩ = some (.int .i16 a0_3) := (blk_cell BK224.out 3).trans rfl
   have hfz7_0 := blk_frozen BK224.out 0
   have hfz7_1 := blk_frozen BK224.out 1
   have hfz7_2 := blk_frozen BK224.out 2
   have hfz7_3 := blk_frozen BK224.out 3
   go_wp2_with (first | ((with_reducible refine gate_callee (f := 58) rfl ?_); refine goesL_ (some 6) rfl rfl Try.func58 (by kernel_rfl) rfl #[.int .i64 (wrap64 (a0_0))] rfl (by (try simp only [List.map_toArray, List.map_cons, List.map_nil]); first | done | rfl | (simp only [List.length_drop, List.length_take]; rfl)) ?_; (with_reducible refine (spec_l01Seeds.calls (wrap64 (a0_0)) true _ A4.out).mono ?_); rintro e w' ⟨rfl, ⟨nd, rfl⟩⟩; refine ⟨_, rfl, ?_⟩) | (go_at_call 58; (with_reducible refine (spec_l01Seeds.calls (wrap64 (a0_3)) t226 _ A6.out).mono ?_); rintro e w' ⟨rfl, ⟨nd, rfl⟩⟩))
   go_meet
   case rel => exact ⟨_, (!t226), (by first | rfl | (simp; done) | (simp [*]; done)), H', ⟨by first | omega | exact Nat.le_refl _⟩, ⟨by (with_reducible repeat (first | refine blk_drewN ?_ _ | refine blk_drew ?_ | refine blk_alloc ?_ _)); exact BK224.out⟩, ⟨by repeat (first | (with_reducible first | exact HB.out | apply below_alloc | apply pw_below_drewN | apply below_drew1 | refine below_set ?_ GE224.out) | exact HB.out)⟩⟩
  ·replace c5 := Bool.eq_false_iff.mpr c5
   subst c5
   have H1 : (spec_l07Plot.j0 k true a0_0 a0_1 a0_2 a0_3) = some r := by rw [if_neg (show ¬ (false = true) by decide)] at H; exact H
   clear H
   have H := H1
   clear H1
   have H' := Aside0.mk H
   clear H
   have hcz8_0 : w3.cell? ⟨gb224, 0, none⟩ = some (.int .i16 a0_0) := (blk_cell BK224.out 0).trans rfl
   have hcz8_1 : w3.cell? ⟨gb224, 1, none⟩ = some (.int .i16 a0_1) := (blk_cell BK224.out 1).trans rfl
   have hcz8_2 : w3.cell? ⟨gb224, 2, none⟩ = some (.int .i16 a0_2) := (blk_cell BK224.out 2).trans rfl
   have hcz8_3 : w3.cell? ⟨gb224, 3, none⟩ = some (.int .i16 a0_3) := (blk_cell BK224.out 3).trans rfl
   have hfz8_0 := blk_frozen BK224.out 0
   have hfz8_1 := blk_frozen BK224.out 1
   have hfz8_2 := blk_frozen BK224.out 2
   have hfz8_3 := blk_frozen BK224.out 3
   go_wp2_with (first | ((with_reducible refine gate_callee (f := 58) rfl ?_); refine goesL_ (some 6) rfl rfl Try.func58 (by kernel_rfl) rfl #[.int .i64 (wrap64 (a0_0))] rfl (by (try simp only [List.map_toArray, List.map_cons, List.map_nil]); first | done | rfl | (simp only [List.length_drop, List.length_take]; rfl)) ?_; (with_reducible refine (spec_l01Seeds.calls (wrap64 (a0_0)) false _ A4.out).mono ?_); rintro e w' ⟨rfl, ⟨nd, rfl⟩⟩; refine ⟨_, rfl, ?_⟩))
   go_meet
   case rel => exact ⟨_, (true), (by first | rfl | (simp; done) | (simp [*]; done)), H', ⟨by first | omega | exact Nat.le_refl _⟩, ⟨by (with_reducible repeat (first | refine blk_drewN ?_ _ | refine blk_drew ?_ | refine blk_alloc ?_ _)); exact BK224.out⟩, ⟨by repeat (first | (with_reducible first | exact HB.out | apply below_alloc | apply pw_below_drewN | apply below_drew1 | refine below_set ?_ GE224.out) | exact HB.out)⟩⟩
 case rest =>
  clear HC2
  try clear p2
  try clear c5
  try clear p6
  try clear hcz7_0
  try clear hcz7_1
  try clear hcz7_2
  try clear hcz7_3
  try clear hcz8_0
  try clear hcz8_1
  try clear hcz8_2
  try clear hcz8_3
  try clear hfz7_0
  try clear hfz7_1
  try clear hfz7_2
  try clear hfz7_3
  try clear hfz8_0
  try clear hfz8_1
  try clear hfz8_2
  try clear hfz8_3
  obtain ⟨kq, x14_1, rfl, HA, HJ1, BK224, HB⟩ := hcut
  cases kq with
  | zero => exact absurd HA.out (by simp [spec_l07Plot.j0])
  | succ kj1 =>
   have H := HA.out
   clear HA
   simp only [spec_l07Plot.j0] at H
   by_cases c9 : x14_1 = true
   ·subst c9
    have H1 : (some false) = some r := by rw [if_pos rfl] at H; exact H
    clear H
    have H := H1
    clear H1
    obtain rfl := Option.some.inj H
    go_wp2
    go_ret
    exact ⟨by first | rfl | (simp [errW_none, errW_some] <;> rfl) | (simp [*, errW_none, errW_some] <;> rfl), by repeat (first | (with_reducible first | exact HB.out | apply below_alloc | apply pw_below_drewN | apply below_drew1 | refine below_set ?_ GE224.out) | exact HB.out)⟩
   ·replace c9 := Bool.eq_false_iff.mpr c9
    subst c9
    have H1 : ((spec_l00In.f (wrap64 (a0_1)) 0 20).bind fun t227 => (if t227 = true then ((spec_l00In.f (wrap64 (a0_2)) 0 20).bind fun t228 => (some t228)) else (some false))) = some r := by rw [if_neg (show ¬ (false = true) by decide)] at H; exact H
    clear H
    have H := H1
    clear H1
    replace H := Option.bind_eq_some_iff.mp H
    obtain ⟨t227, A100, H⟩ := H
    replace H : (if t227 = true then ((spec_l00In.f (wrap64 (a0_2)) 0 20).bind fun t228 => (some t228)) else (some false)) = some r := H
    have A10 := Aside0.mk A100
    clear A100
    by_cases c11 : t227 = true
    ·subst c11
     have H1 : ((spec_l00In.f (wrap64 (a0_2)) 0 20).bind fun t228 => (some t228)) = some r := by rw [if_pos rfl] at H; exact H
     clear H
     have H := H1
     clear H1
     replace H := Option.bind_eq_some_iff.mp H
     obtain ⟨t228, A120, H⟩ := H
     replace H : (some t228) = some r := H
     have A12 := Aside0.mk A120
     clear A120
     obtain rfl := Option.some.inj H
     have hcz13_0 : wc.cell? ⟨gb224, 0, none⟩ = some (.int .i16 a0_0) := (blk_cell BK224.out 0).trans rfl
     have hcz13_1 : wc.cell? ⟨gb224, 1, none⟩ = some (.int .i16 a0_1) := (blk_cell BK224.out 1).trans rfl
     have hcz13_2 : wc.cell? ⟨gb224, 2, none⟩ = some (.int .i16 a0_2) := (blk_cell BK224.out 2).trans rfl
     have hcz13_3 : wc.cell? ⟨gb224, 3, none⟩ = some (.int .i16 a0_3) := (blk_cell BK224.out 3).trans rfl
     have hfz13_0 := blk_frozen BK224.out 0
     have hfz13_1 := blk_frozen BK224.out 1
     have hfz13_2 := blk_frozen BK224.out 2
     have hfz13_3 := blk_frozen BK224.out 3
     go_wp2_with (first | ((with_reducible refine gate_callee (f := 50) rfl ?_); refine goesL_ (some 18) rfl rfl Try.func50 (by kernel_rfl) rfl #[.int .i64 (wrap64 (a0_1)), .int .i64 0, .int .i64 20] rfl (by (try simp only [List.map_toArray, List.map_cons, List.map_nil]); first | done | rfl | (simp only [List.length_drop, List.length_take]; rfl)) ?_; (with_reducible refine (spec_l00In.calls (wrap64 (a0_1)) 0 20 true _ A10.out).mono ?_); rintro e w' ⟨rfl, ⟨nd, rfl⟩⟩; refine ⟨_, rfl, ?_⟩) | (go_at_call 50; (with_reducible refine (spec_l00In.calls (wrap64 (a0_2)) 0 20 t228 _ A12.out).mono ?_); rintro e w' ⟨rfl, ⟨nd, rfl⟩⟩))
     go_ret
     exact ⟨by first | rfl | (simp [errW_none, errW_some] <;> rfl) | (simp [*, errW_none, errW_some] <;> rfl), by repeat (first | (with_reducible first | exact HB.out | apply below_alloc | apply pw_below_drewN | apply below_drew1 | refine below_set ?_ GE224.out) | exact HB.out)⟩
    ·replace c11 := Bool.eq_false_iff.mpr c11
     subst c11
     have H1 : (some false) = some r := by rw [if_neg (show ¬ (false = true) by decide)] at H; exact H
     clear H
     have H := H1
     clear H1
     obtain rfl := Option.some.inj H
     have hcz14_0 : wc.cell? ⟨gb224, 0, none⟩ = some (.int .i16 a0_0) := (blk_cell BK224.out 0).trans rfl
     have hcz14_1 : wc.cell? ⟨gb224, 1, none⟩ = some (.int .i16 a0_1) := (blk_cell BK224.out 1).trans rfl
     have hcz14_2 : wc.cell? ⟨gb224, 2, none⟩ = some (.int .i16 a0_2) := (blk_cell BK224.out 2).trans rfl
     have hcz14_3 : wc.cell? ⟨gb224, 3, none⟩ = some (.int .i16 a0_3) := (blk_cell BK224.out 3).trans rfl
     have hfz14_0 := blk_frozen BK224.out 0
     have hfz14_1 := blk_frozen BK224.out 1
     have hfz14_2 := blk_frozen BK224.out 2
     have hfz14_3 := blk_frozen BK224.out 3
     go_wp2_with (first | ((with_reducible refine gate_callee (f := 50) rfl ?_); refine goesL_ (some 18) rfl rfl Try.func50 (by kernel_rfl) rfl #[.int .i64 (wrap64 (a0_1)), .int .i64 0, .int .i64 20] rfl (by (try simp only [List.map_toArray, List.map_cons, List.map_nil]); first | done | rfl | (simp only [List.length_drop, List.length_take]; rfl)) ?_; (with_reducible refine (spec_l00In.calls (wrap64 (a0_1)) 0 20 false _ A10.out).mono ?_); rintro e w' ⟨rfl, ⟨nd, rfl⟩⟩; refine ⟨_, rfl, ?_⟩))
     go_ret
     exact ⟨by first | rfl | (simp [errW_none, errW_some] <;> rfl) | (simp [*, errW_none, errW_some] <;> rfl), by repeat (first | (with_reducible first | exact HB.out | apply below_alloc | apply pw_below_drewN | apply below_drew1 | refine below_set ?_ GE224.out) | exact HB.out)⟩

end Go.Proofs.Ytokeeplkbgdokaa.Pq

/- Functions of the program as Lean functions, each with a proof that a call of it comes to just that. Written by this session's program wip/tools/myprint.py. -/
namespace Go.Proofs.Ytokeeplkbgdokaa.Pq
open Go.RowKit Go.Proofs.YtokeeplkbgdokaaW.PrintWords Go.Proofs.YtokeeplkbgdokaaW.PrintLast Go.Proofs.YtokeeplkbgdokaaW.PrintMore
attribute [local go_sem] max2_int min2_int max_two min_two max_three min_three max_four min_four   -- for this text's walks alone
set_option linter.unusedVariables false
set_option linter.unusedSimpArgs false

/-! ### spec_l07Ok: function 52 -/
def spec_l07Ok.l0 : Nat → List (S40) → Int → Option (Bool)
 | 0, _, _ => none
 | k + 1, x0, x3 => if x3 < (x0.length : Int) then (if 0 ≤ x3 then ((spec_l07Plot.f k ((rd_T40 x0 x3).f0) ((rd_T40 x0 x3).f1) ((rd_T40 x0 x3).f2) ((rd_T40 x0 x3).f3)).bind fun t230 => (if t230 = true then (spec_l07Ok.l0 k x0 (wrap64 (x3 + 1))) else (some false))) else (none)) else (some (decide ((x0.length : Int) ≤ 6)))
def spec_l07Ok.f (k : Nat) (l0 : List (S40)) : Option (Bool) := spec_l07Ok.l0 k l0 0
theorem spec_l07Ok.mono_l : ∀ k, (∀ y0 y1, LeO (spec_l07Ok.l0 k y0 y1) (spec_l07Ok.l0 (k + 1) y0 y1))
 | 0 => fun _ _ r h => by simp [spec_l07Ok.l0] at h
 | k + 1 => by
  have ih0 := spec_l07Ok.mono_l k
  ·intro y0 y1
   unfold spec_l07Ok.l0
   repeat' first
   | (with_reducible exact ih0 _ _)
   | (with_reducible exact spec_l07Plot.mono _ _ _ _ _)
   | (with_reducible exact LeO.refl _)
   | (with_reducible exact LeO.none _)
   | (with_reducible refine LeO.ite ?_ ?_)
   | (with_reducible refine LeO.bind ?_ (fun _ => ?_))
   | exact ih0 _ _
   | exact spec_l07Plot.mono _ _ _ _ _
   | exact LeO.none _
   | refine LeO.ite ?_ ?_
   | refine LeO.bind ?_ (fun _ => ?_)
theorem spec_l07Ok.mono : ∀ a0 k, LeO (spec_l07Ok.f k a0) (spec_l07Ok.f (k + 1) a0) := by
 intro a0 k
 have ih0 := spec_l07Ok.mono_l k
 unfold spec_l07Ok.f
 repeat' first
   | (with_reducible exact ih0 _ _)
   | (with_reducible exact spec_l07Plot.mono _ _ _ _ _)
   | (with_reducible exact LeO.refl _)
   | (with_reducible exact LeO.none _)
   | (with_reducible refine LeO.ite ?_ ?_)
   | (with_reducible refine LeO.bind ?_ (fun _ => ?_))
   | exact ih0 _ _
   | exact spec_l07Plot.mono _ _ _ _ _
   | exact LeO.none _
   | refine LeO.ite ?_ ?_
   | refine LeO.bind ?_ (fun _ => ?_)
set_option maxHeartbeats 8000000 in
set_option maxRecDepth 100000 in
theorem spec_l07Ok.calls (k : Nat) (A0 : Option Addr) (c0 : Nat) (l0 : List (S40)) (r : Bool) (w : World) (hr0 : Kd.C k40 w A0 l0.length l0) (hc0 : l0.length ≤ c0) (h : spec_l07Ok.f k l0 = some r) :
  Calls Try.prog 52 #[.slice A0 l0.length c0] w fun e w' => e = .returned (.bool r) ∧ Below w.heap.size w w' := by
 have hu40 := Try.underlying40
 have HR0 := Aside0.mk hr0
 have HC0 := Aside0.mk hc0
 clear hr0 hc0
 have HB := Aside0.mk (Below.refl w.heap.size w)
 have H : (spec_l07Ok.l0 k l0 0) = some r := h
 clear h
 have H' := Aside0.mk H
 clear H
 go_enter Try.func52, Try.ntmps52
 go_wp2
 go_loopg [3] k (fun kq v3 w' => ∃ (x3_1 : Int), v3 = .int .i64 x3_1 ∧ Aside0 (spec_l07Ok.l0 kq l0 x3_1 = some r) ∧ Aside0 (kq ≤ k) ∧ Aside0 (Below w.heap.size w w'))
 case atStart => exact ⟨(0), (by first | rfl | (simp; done) | (simp [*]; done)), H', ⟨Nat.le_refl _⟩, ⟨by repeat (first | (with_reducible first | exact HB.out | apply below_alloc | apply pw_below_drewN | apply below_drew1) | exact HB.out)⟩⟩
 case round =>
  clear H'
  obtain ⟨x3_1, rfl, HA, HK1, HB⟩ := hrel
  cases gk with
  | zero => exact absurd HA.out (by simp [spec_l07Ok.l0])
  | succ k1 =>
   have H := HA.out
   clear HA
   simp only [spec_l07Ok.l0] at H
   by_cases c2 : x3_1 < (l0.length : Int)
   ·rw [if_pos c2] at H
    have c2b0 : decide (x3_1 < (l0.length : Int)) = true := decide_eq_true c2
    clear c2
    by_cases c3 : 0 ≤ x3_1
    ·rw [if_pos c3] at H
     have c3b0 : decide (0 ≤ x3_1) = true := decide_eq_true c3
     clear c3
     replace H := Option.bind_eq_some_iff.mp H
     obtain ⟨t230, A40, H⟩ := H
     replace H : (if t230 = true then (spec_l07Ok.l0 k1 l0 (wrap64 (x3_1 + 1))) else (some false)) = some r := H
     have A4 := Aside0.mk A40
     clear A40
     by_cases c5 : t230 = true
     ·subst c5
      have H1 : (spec_l07Ok.l0 k1 l0 (wrap64 (x3_1 + 1))) = some r := by rw [if_pos rfl] at H; exact H
      clear H
      have H := H1
      clear H1
      have H' := Aside0.mk H
      clear H
      have p229 : 0 ≤ (x3_1 : Int) := of_decide_eq_true (by first | (with_reducible assumption) | assumption)
      have q229 : x3_1 < (l0.length : Int) := of_decide_eq_true (by first | (with_reducible assumption) | assumption)
      obtain ⟨ad229, e229, hx229_0, hx229_1, hx229_2, hx229_3⟩ := at_T40 HR0.out x3_1 p229 q229
      cases e229
      replace hx229_0 := (HB.out.cell (World.block_lt_of_cell? w _ hx229_0)).trans hx229_0
      replace hx229_1 := (HB.out.cell (World.block_lt_of_cell? w _ hx229_1)).trans hx229_1
      replace hx229_2 := (HB.out.cell (World.block_lt_of_cell? w _ hx229_2)).trans hx229_2
      replace hx229_3 := (HB.out.cell (World.block_lt_of_cell? w _ hx229_3)).trans hx229_3
      replace p229 := eq_true p229
      replace q229 := eq_true q229
      go_wp2_with (first | ((with_reducible refine gate_callee (f := 55) rfl ?_); refine goesL_ (some 14) rfl rfl Try.func55 (by kernel_rfl) rfl #[.agg #[.int .i16 ((rd_T40 l0 x3_1).f0), .int .i16 ((rd_T40 l0 x3_1).f1), .int .i16 ((rd_T40 l0 x3_1).f2), .int .i16 ((rd_T40 l0 x3_1).f3)]] rfl (by (try simp only [List.map_toArray, List.map_cons, List.map_nil]); first | done | rfl | (simp only [List.length_drop, List.length_take]; rfl)) ?_; (with_reducible refine (spec_l07Plot.calls k1 ((rd_T40 l0 x3_1).f0) ((rd_T40 l0 x3_1).f1) ((rd_T40 l0 x3_1).f2) ((rd_T40 l0 x3_1).f3) true _ A4.out).mono ?_); rintro e w6 ⟨rfl, hb⟩; refine ⟨_, rfl, ?_⟩; have n0_ := Aside0.mk (below_step (by repeat (first | (with_reducible first | exact HB.out | apply below_alloc | apply pw_below_drewN | apply below_drew1) | exact HB.out)) hb); clear HB; have HB := n0_; clear n0_; (try clear hb); (try clear hb2); (try clear hk); (try clear hi)))
      go_roundg k1
      case measure => have := HK1.out; omega
      case rel => exact ⟨(wrap64 (x3_1 + 1)), (by first | rfl | (simp; done) | (simp [*]; done)), H', ⟨by have := HK1.out; omega⟩, ⟨by repeat (first | (with_reducible first | exact HB.out | apply below_alloc | apply pw_below_drewN | apply below_drew1) | exact HB.out)⟩⟩
     ·replace c5 := Bool.eq_false_iff.mpr c5
      subst c5
      have H1 : (some false) = some r := by rw [if_neg (show ¬ (false = true) by decide)] at H; exact H
      clear H
      have H := H1
      clear H1
      obtain rfl := Option.some.inj H
      have p229 : 0 ≤ (x3_1 : Int) := of_decide_eq_true (by first | (with_reducible assumption) | assumption)
      have q229 : x3_1 < (l0.length : Int) := of_decide_eq_true (by first | (with_reducible assumption) | assumption)
      obtain ⟨ad229, e229, hx229_0, hx229_1, hx229_2, hx229_3⟩ := at_T40 HR0.out x3_1 p229 q229
      cases e229
      replace hx229_0 := (HB.out.cell (World.block_lt_of_cell? w _ hx229_0)).trans hx229_0
      replace hx229_1 := (HB.out.cell (World.block_lt_of_cell? w _ hx229_1)).trans hx229_1
      replace hx229_2 := (HB.out.cell (World.block_lt_of_cell? w _ hx229_2)).trans hx229_2
      replace hx229_3 := (HB.out.cell (World.block_lt_of_cell? w _ hx229_3)).trans hx229_3
      replace p229 := eq_true p229
      replace q229 := eq_true q229
      go_wp2_with (first | ((with_reducible refine gate_callee (f := 55) rfl ?_); refine goesL_ (some 14) rfl rfl Try.func55 (by kernel_rfl) rfl #[.agg #[.int .i16 ((rd_T40 l0 x3_1).f0), .int .i16 ((rd_T40 l0 x3_1).f1), .int .i16 ((rd_T40 l0 x3_1).f2), .int .i16 ((rd_T40 l0 x3_1).f3)]] rfl (by (try simp only [List.map_toArray, List.map_cons, List.map_nil]); first | done | rfl | (simp only [List.length_drop, List.length_take]; rfl)) ?_; (with_reducible refine (spec_l07Plot.calls k1 ((rd_T40 l0 x3_1).f0) ((rd_T40 l0 x3_1).f1) ((rd_T40 l0 x3_1).f2) ((rd_T40 l0 x3_1).f3) false _ A4.out).mono ?_); rintro e w7 ⟨rfl, hb⟩; refine ⟨_, rfl, ?_⟩; have n0_ := Aside0.mk (below_step (by repeat (first | (with_reducible first | exact HB.out | apply below_alloc | apply pw_below_drewN | apply below_drew1) | exact HB.out)) hb); clear HB; have HB := n0_; clear n0_; (try clear hb); (try clear hb2); (try clear hk); (try clear hi)))
      go_ret
      exact ⟨by first | rfl | (simp [errW_none, errW_some] <;> rfl) | (simp [*, errW_none, errW_some] <;> rfl), by repeat (first | (with_reducible first | exact HB.out | apply below_alloc | apply pw_below_drewN | apply below_drew1) | exact HB.out)⟩
    ·rw [if_neg c3] at H
     exact absurd H (by simp)
   ·rw [if_neg c2] at H
    have c2b0 : decide (x3_1 < (l0.length : Int)) = false := decide_eq_false c2
    clear c2
    obtain rfl := Option.some.inj H
    go_wp2
    go_ret
    exact ⟨by first | rfl | (simp [errW_none, errW_some] <;> rfl) | (simp [*, errW_none, errW_some] <;> rfl), by repeat (first | (with_reducible first | exact HB.out | apply below_alloc | apply pw_below_drewN | apply below_drew1) | exact HB.out)⟩

end Go.Proofs.Ytokeeplkbgdokaa.Pq

/- Functions of the program as Lean functions, each with a proof that a call of it comes to just that. Written by this session's program wip/tools/myprint.py. -/
namespace Go.Proofs.Ytokeeplkbgdokaa.Pq
open Go.RowKit Go.Proofs.YtokeeplkbgdokaaW.PrintWords Go.Proofs.YtokeeplkbgdokaaW.PrintLast Go.Proofs.YtokeeplkbgdokaaW.PrintMore
attribute [local go_sem] max2_int min2_int max_two min_two max_three min_three max_four min_four   -- for this text's walks alone
set_option linter.unusedVariables false
set_option linter.unusedSimpArgs false

/-! ### spec_l07Asked: function 41 -/
def spec_l07Asked.f (k : Nat) (l0 : List (S40)) (a1 : Bool) : Option (Int) := (spec_l07Ok.f k l0).bind fun t231 => (if t231 = true then (if a1 = true then (some 0) else (some 2)) else (some 1))
theorem spec_l07Asked.mono : ∀ a0 a1 k, LeO (spec_l07Asked.f k a0 a1) (spec_l07Asked.f (k + 1) a0 a1) := by
 intro a0 a1 k
 unfold spec_l07Asked.f
 repeat' first
   | (with_reducible exact spec_l07Ok.mono _ _)
   | (with_reducible exact LeO.refl _)
   | (with_reducible exact LeO.none _)
   | (with_reducible refine LeO.ite ?_ ?_)
   | (with_reducible refine LeO.bind ?_ (fun _ => ?_))
   | exact spec_l07Ok.mono _ _
   | exact LeO.none _
   | refine LeO.ite ?_ ?_
   | refine LeO.bind ?_ (fun _ => ?_)
set_option maxHeartbeats 8000000 in
set_option maxRecDepth 100000 in
theorem spec_l07Asked.calls (k : Nat) (A0 : Option Addr) (c0 : Nat) (l0 : List (S40)) (a1 : Bool) (r : Int) (w : World) (hr0 : Kd.C k40 w A0 l0.length l0) (hc0 : l0.length ≤ c0) (h : spec_l07Asked.f k l0 a1 = some r) :
  Calls Try.prog 41 #[.slice A0 l0.length c0, .bool a1] w fun e w' => e = .returned (.int .i64 r) ∧ Below w.heap.size w w' := by
 have HR0 := Aside0.mk hr0
 have HC0 := Aside0.mk hc0
 clear hr0 hc0
 have HB := Aside0.mk (Below.refl w.heap.size w)
 have H : ((spec_l07Ok.f k l0).bind fun t231 => (if t231 = true then (if a1 = true then (some 0) else (some 2)) else (some 1))) = some r := h
 clear h
 replace H := Option.bind_eq_some_iff.mp H
 obtain ⟨t231, A30, H⟩ := H
 replace H : (if t231 = true then (if a1 = true then (some 0) else (some 2)) else (some 1)) = some r := H
 have A3 := Aside0.mk A30
 clear A30
 by_cases c4 : t231 = true
 ·subst c4
  have H1 : (if a1 = true then (some 0) else (some 2)) = some r := by rw [if_pos rfl] at H; exact H
  clear H
  have H := H1
  clear H1
  by_cases c5 : a1 = true
  ·subst c5
   have H1 : (some 0) = some r := by rw [if_pos rfl] at H; exact H
   clear H
   have H := H1
   clear H1
   obtain rfl := Option.some.inj H
   go_enter Try.func41, Try.ntmps41
   go_wp2_with (first | ((with_reducible refine gate_callee (f := 52) rfl ?_); refine goesL_ (some 6) rfl rfl Try.func52 (by kernel_rfl) rfl #[.slice A0 l0.length c0] rfl (by (try simp only [List.map_toArray, List.map_cons, List.map_nil]); first | done | rfl | (simp only [List.length_drop, List.length_take]; rfl)) ?_; (with_reducible refine (spec_l07Ok.calls k _ _ l0 true _ ?side1 ?side2 A3.out).mono ?_); (case side1 => repeat (first | exact HR0.out | (with_reducible refine Kd.C_alloc ?_ _) | (with_reducible refine Kd.C_drewN ?_ _) | (with_reducible refine Kd.C_drew ?_))); (case side2 => exact HC0.out); rintro e w6 ⟨rfl, hb⟩; refine ⟨_, rfl, ?_⟩; have n0_ := Aside0.mk (below_step (by repeat (first | (with_reducible first | exact HB.out | apply below_alloc | apply pw_below_drewN | apply below_drew1) | exact HB.out)) hb); clear HB; have HB := n0_; clear n0_; (try clear hb); (try clear hb2); (try clear hk); (try clear hi)))
   go_ret
   exact ⟨by first | rfl | (simp [errW_none, errW_some] <;> rfl) | (simp [*, errW_none, errW_some] <;> rfl), by repeat (first | (with_reducible first | exact HB.out | apply below_alloc | apply pw_below_drewN | apply below_drew1) | exact HB.out)⟩
  ·replace c5 := Bool.eq_false_iff.mpr c5
   subst c5
   have H1 : (some 2) = some r := by rw [if_neg (show ¬ (false = true) by decide)] at H; exact H
   clear H
   have H := H1
   clear H1
   obtain rfl := Option.some.inj H
   go_enter Try.func41, Try.ntmps41
   go_wp2_with (first | ((with_reducible refine gate_callee (f := 52) rfl ?_); refine goesL_ (some 6) rfl rfl Try.func52 (by kernel_rfl) rfl #[.slice A0 l0.length c0] rfl (by (try simp only [List.map_toArray, List.map_cons, List.map_nil]); first | done | rfl | (simp only [List.length_drop, List.length_take]; rfl)) ?_; (with_reducible refine (spec_l07Ok.calls k _ _ l0 true _ ?side1 ?side2 A3.out).mono ?_); (case side1 => repeat (first | exact HR0.out | (with_reducible refine Kd.C_alloc ?_ _) | (with_reducible refine Kd.C_drewN ?_ _) | (with_reducible refine Kd.C_drew ?_))); (case side2 => exact HC0.out); rintro e w7 ⟨rfl, hb⟩; refine ⟨_, rfl, ?_⟩; have n0_ := Aside0.mk (below_step (by repeat (first | (with_reducible first | exact HB.out | apply below_alloc | apply pw_below_drewN | apply below_drew1) | exact HB.out)) hb); clear HB; have HB := n0_; clear n0_; (try clear hb); (try clear hb2); (try clear hk); (try clear hi)))
   go_ret
   exact ⟨by first | rfl | (simp [errW_none, errW_some] <;> rfl) | (simp [*, errW_none, errW_some] <;> rfl), by repeat (first | (with_reducible first | exact HB.out | apply below_alloc | apply pw_below_drewN | apply below_drew1) | exact HB.out)⟩
 ·replace c4 := Bool.eq_false_iff.mpr c4
  subst c4
  have H1 : (some 1) = some r := by rw [if_neg (show ¬ (false = true) by decide)] at H; exact H
  clear H
  have H := H1
  clear H1
  obtain rfl := Option.some.inj H
  go_enter Try.func41, Try.ntmps41
  go_wp2_with (first | ((with_reducible refine gate_callee (f := 52) rfl ?_); refine goesL_ (some 6) rfl rfl Try.func52 (by kernel_rfl) rfl #[.slice A0 l0.length c0] rfl (by (try simp only [List.map_toArray, List.map_cons, List.map_nil]); first | done | rfl | (simp only [List.length_drop, List.length_take]; rfl)) ?_; (with_reducible refine (spec_l07Ok.calls k _ _ l0 false _ ?side1 ?side2 A3.out).mono ?_); (case side1 => repeat (first | exact HR0.out | (with_reducible refine Kd.C_alloc ?_ _) | (with_reducible refine Kd.C_drewN ?_ _) | (with_reducible refine Kd.C_drew ?_))); (case side2 => exact HC0.out); rintro e w8 ⟨rfl, hb⟩; refine ⟨_, rfl, ?_⟩; have n0_ := Aside0.mk (below_step (by repeat (first | (with_reducible first | exact HB.out | apply below_alloc | apply pw_below_drewN | apply below_drew1) | exact HB.out)) hb); clear HB; have HB := n0_; clear n0_; (try clear hb); (try clear hb2); (try clear hk); (try clear hi)))
  go_ret
  exact ⟨by first | rfl | (simp [errW_none, errW_some] <;> rfl) | (simp [*, errW_none, errW_some] <;> rfl), by repeat (first | (with_reducible first | exact HB.out | apply below_alloc | apply pw_below_drewN | apply below_drew1) | exact HB.out)⟩

end Go.Proofs.Ytokeeplkbgdokaa.Pq

/- Functions of the program as Lean functions, each with a proof that a call of it comes to just that. Written by this session's program wip/tools/myprint.py. -/
namespace Go.Proofs.Ytokeeplkbgdokaa.Pq
open Go.RowKit Go.Proofs.YtokeeplkbgdokaaW.PrintWords Go.Proofs.YtokeeplkbgdokaaW.PrintLast Go.Proofs.YtokeeplkbgdokaaW.PrintMore
attribute [local go_sem] max2_int min2_int max_two min_two max_three min_three max_four min_four   -- for this text's walks alone
set_option linter.unusedVariables false
set_option linter.unusedSimpArgs false

/-! ### spec_l07Days: function 43 -/
def spec_l07Days.f (a0 : Int) : Option (Bool) := (spec_l00In.f a0 1 20).bind fun t232 => (some t232)
set_option maxHeartbeats 8000000 in
set_option maxRecDepth 100000 in
theorem spec_l07Days.calls (a0 : Int) (r : Bool) (w : World) (h : spec_l07Days.f a0 = some r) :
  Calls Try.prog 43 #[.int .i64 a0] w fun e w' => e = .returned (.bool r) ∧ Drawn0 w w' := by
 have H : ((spec_l00In.f a0 1 20).bind fun t232 => (some t232)) = some r := h
 clear h
 replace H := Option.bind_eq_some_iff.mp H
 obtain ⟨t232, A20, H⟩ := H
 replace H : (some t232) = some r := H
 have A2 := Aside0.mk A20
 clear A20
 obtain rfl := Option.some.inj H
 go_enter Try.func43, Try.ntmps43
 go_wp2_with (first | ((with_reducible refine gate_callee (f := 50) rfl ?_); refine goesL_ (some 4) rfl rfl Try.func50 (by kernel_rfl) rfl #[.int .i64 a0, .int .i64 1, .int .i64 20] rfl (by (try simp only [List.map_toArray, List.map_cons, List.map_nil]); first | done | rfl | (simp only [List.length_drop, List.length_take]; rfl)) ?_; (with_reducible refine (spec_l00In.calls a0 1 20 t232 _ A2.out).mono ?_); rintro e w' ⟨rfl, ⟨nd, rfl⟩⟩; refine ⟨_, rfl, ?_⟩))
 go_ret
 exact ⟨by first | rfl | (simp; done) | (simp [*]; done), by repeat (first | exact Drawn0.refl _ | apply Drawn0.step)⟩

end Go.Proofs.Ytokeeplkbgdokaa.Pq

/- Functions of the program as Lean functions, each with a proof that a call of it comes to just that. Written by this session's program wip/tools/myprint.py. -/
namespace Go.Proofs.Ytokeeplkbgdokaa.Pq
open Go.RowKit Go.Proofs.YtokeeplkbgdokaaW.PrintWords Go.Proofs.YtokeeplkbgdokaaW.PrintLast Go.Proofs.YtokeeplkbgdokaaW.PrintMore
attribute [local go_sem] max2_int min2_int max_two min_two max_three min_three max_four min_four   -- for this text's walks alone
set_option linter.unusedVariables false
set_option linter.unusedSimpArgs false

/-! ### spec_l07Hands: function 49 -/
def spec_l07Hands.f (a0 : Int) : Option (Bool) := (spec_l00In.f a0 1 3).bind fun t233 => (some t233)
set_option maxHeartbeats 8000000 in
set_option maxRecDepth 100000 in
theorem spec_l07Hands.calls (a0 : Int) (r : Bool) (w : World) (h : spec_l07Hands.f a0 = some r) :
  Calls Try.prog 49 #[.int .i64 a0] w fun e w' => e = .returned (.bool r) ∧ Drawn0 w w' := by
 have H : ((spec_l00In.f a0 1 3).bind fun t233 => (some t233)) = some r := h
 clear h
 replace H := Option.bind_eq_some_iff.mp H
 obtain ⟨t233, A20, H⟩ := H
 replace H : (some t233) = some r := H
 have A2 := Aside0.mk A20
 clear A20
 obtain rfl := Option.some.inj H
 go_enter Try.func49, Try.ntmps49
 go_wp2_with (first | ((with_reducible refine gate_callee (f := 50) rfl ?_); refine goesL_ (some 4) rfl rfl Try.func50 (by kernel_rfl) rfl #[.int .i64 a0, .int .i64 1, .int .i64 3] rfl (by (try simp only [List.map_toArray, List.map_cons, List.map_nil]); first | done | rfl | (simp only [List.length_drop, List.length_take]; rfl)) ?_; (with_reducible refine (spec_l00In.calls a0 1 3 t233 _ A2.out).mono ?_); rintro e w' ⟨rfl, ⟨nd, rfl⟩⟩; refine ⟨_, rfl, ?_⟩))
 go_ret
 exact ⟨by first | rfl | (simp; done) | (simp [*]; done), by repeat (first | exact Drawn0.refl _ | apply Drawn0.step)⟩

end Go.Proofs.Ytokeeplkbgdokaa.Pq

/- Functions of the program as Lean functions, each with a proof that a call of it comes to just that. Written by this session's program wip/tools/myprint.py. -/
namespace Go.Proofs.Ytokeeplkbgdokaa.Pq
open Go.RowKit Go.Proofs.YtokeeplkbgdokaaW.PrintWords Go.Proofs.YtokeeplkbgdokaaW.PrintLast Go.Proofs.YtokeeplkbgdokaaW.PrintMore
attribute [local go_sem] max2_int min2_int max_two min_two max_three min_three max_four min_four   -- for this text's walks alone
set_option linter.unusedVariables false
set_option linter.unusedSimpArgs false

/-! ### spec_l07Game: function 29 -/
def spec_l07Game.f (k : Nat) (l0 : List (S40)) (a1 : Int) (a2 : Int) : Option (Int) := (spec_l07Hands.f a1).bind fun t234 => (if t234 = true then ((spec_l07Days.f a2).bind fun t235 => ((spec_l07Asked.f k l0 t235).bind fun t236 => (some t236))) else ((spec_l07Asked.f k l0 false).bind fun t237 => (some t237)))
theorem spec_l07Game.mono : ∀ a0 a1 a2 k, LeO (spec_l07Game.f k a0 a1 a2) (spec_l07Game.f (k + 1) a0 a1 a2) := by
 intro a0 a1 a2 k
 unfold spec_l07Game.f
 repeat' first
   | (with_reducible exact spec_l07Asked.mono _ _ _)
   | (with_reducible exact LeO.refl _)
   | (with_reducible exact LeO.none _)
   | (with_reducible refine LeO.ite ?_ ?_)
   | (with_reducible refine LeO.bind ?_ (fun _ => ?_))
   | exact spec_l07Asked.mono _ _ _
   | exact LeO.none _
   | refine LeO.ite ?_ ?_
   | refine LeO.bind ?_ (fun _ => ?_)
set_option maxHeartbeats 8000000 in
set_option maxRecDepth 100000 in
theorem spec_l07Game.calls (k : Nat) (A0 : Option Addr) (c0 : Nat) (l0 : List (S40)) (a1 : Int) (a2 : Int) (r : Int) (w : World) (hr0 : Kd.C k40 w A0 l0.length l0) (hc0 : l0.length ≤ c0) (h : spec_l07Game.f k l0 a1 a2 = some r) :
  Calls Try.prog 29 #[.slice A0 l0.length c0, .int .i64 a1, .int .i64 a2] w fun e w' => e = .returned (.int .i64 r) ∧ Below w.heap.size w w' := by
 have HR0 := Aside0.mk hr0
 have HC0 := Aside0.mk hc0
 clear hr0 hc0
 have HB := Aside0.mk (Below.refl w.heap.size w)
 have H : ((spec_l07Hands.f a1).bind fun t234 => (if t234 = true then ((spec_l07Days.f a2).bind fun t235 => ((spec_l07Asked.f k l0 t235).bind fun t236 => (some t236))) else ((spec_l07Asked.f k l0 false).bind fun t237 => (some t237)))) = some r := h
 clear h
 replace H := Option.bind_eq_some_iff.mp H
 obtain ⟨t234, A40, H⟩ := H
 replace H : (if t234 = true then ((spec_l07Days.f a2).bind fun t235 => ((spec_l07Asked.f k l0 t235).bind fun t236 => (some t236))) else ((spec_l07Asked.f k l0 false).bind fun t237 => (some t237))) = some r := H
 have A4 := Aside0.mk A40
 clear A40
 by_cases c5 : t234 = true
 ·subst c5
  have H1 : ((spec_l07Days.f a2).bind fun t235 => ((spec_l07Asked.f k l0 t235).bind fun t236 => (some t236))) = some r := by rw [if_pos rfl] at H; exact H
  clear H
  have H := H1
  clear H1
  replace H := Option.bind_eq_some_iff.mp H
  obtain ⟨t235, A60, H⟩ := H
  replace H : ((spec_l07Asked.f k l0 t235).bind fun t236 => (some t236)) = some r := H
  have A6 := Aside0.mk A60
  clear A60
  replace H := Option.bind_eq_some_iff.mp H
  obtain ⟨t236, A70, H⟩ := H
  replace H : (some t236) = some r := H
  have A7 := Aside0.mk A70
  clear A70
  obtain rfl := Option.some.inj H
  go_enter Try.func29, Try.ntmps29
  go_wp2_with (first | ((with_reducible refine gate_callee (f := 49) rfl ?_); refine goesL_ (some 9) rfl rfl Try.func49 (by kernel_rfl) rfl #[.int .i64 a1] rfl (by (try simp only [List.map_toArray, List.map_cons, List.map_nil]); first | done | rfl | (simp only [List.length_drop, List.length_take]; rfl)) ?_; (with_reducible refine (spec_l07Hands.calls a1 true _ A4.out).mono ?_); rintro e w' ⟨rfl, ⟨nd, rfl⟩⟩; refine ⟨_, rfl, ?_⟩) | (go_at_call 43; (with_reducible refine (spec_l07Days.calls a2 t235 _ A6.out).mono ?_); rintro e w' ⟨rfl, ⟨nd, rfl⟩⟩) | ((with_reducible refine gate_callee (f := 41) rfl ?_); refine goesL_ (some 14) rfl rfl Try.func41 (by kernel_rfl) rfl #[.slice A0 l0.length c0, .bool t235] rfl (by (try simp only [List.map_toArray, List.map_cons, List.map_nil]); first | done | rfl | (simp only [List.length_drop, List.length_take]; rfl)) ?_; (with_reducible refine (spec_l07Asked.calls k _ _ l0 t235 t236 _ ?side1 ?side2 A7.out).mono ?_); (case side1 => repeat (first | exact HR0.out | (with_reducible refine Kd.C_alloc ?_ _) | (with_reducible refine Kd.C_drewN ?_ _) | (with_reducible refine Kd.C_drew ?_))); (case side2 => exact HC0.out); rintro e w8 ⟨rfl, hb⟩; refine ⟨_, rfl, ?_⟩; have n0_ := Aside0.mk (below_step (by repeat (first | (with_reducible first | exact HB.out | apply below_alloc | apply pw_below_drewN | apply below_drew1) | exact HB.out)) hb); clear HB; have HB := n0_; clear n0_; (try clear hb); (try clear hb2); (try clear hk); (try clear hi)))
  go_ret
  exact ⟨by first | rfl | (simp [errW_none, errW_some] <;> rfl) | (simp [*, errW_none, errW_some] <;> rfl), by repeat (first | (with_reducible first | exact HB.out | apply below_alloc | apply pw_below_drewN | apply below_drew1) | exact HB.out)⟩
 ·replace c5 := Bool.eq_false_iff.mpr c5
  subst c5
  have H1 : ((spec_l07Asked.f k l0 false).bind fun t237 => (some t237)) = some r := by rw [if_neg (show ¬ (false = true) by decide)] at H; exact H
  clear H
  have H := H1
  clear H1
  replace H := Option.bind_eq_some_iff.mp H
  obtain ⟨t237, A90, H⟩ := H
  replace H : (some t237) = some r := H
  have A9 := Aside0.mk A90
  clear A90
  obtain rfl := Option.some.inj H
  go_enter Try.func29, Try.ntmps29
  go_wp2_with (first | ((with_reducible refine gate_callee (f := 49) rfl ?_); refine goesL_ (some 9) rfl rfl Try.func49 (by kernel_rfl) rfl #[.int .i64 a1] rfl (by (try simp only [List.map_toArray, List.map_cons, List.map_nil]); first | done | rfl | (simp only [List.length_drop, List.length_take]; rfl)) ?_; (with_reducible refine (spec_l07Hands.calls a1 false _ A4.out).mono ?_); rintro e w' ⟨rfl, ⟨nd, rfl⟩⟩; refine ⟨_, rfl, ?_⟩) | ((with_reducible refine gate_callee (f := 41) rfl ?_); refine goesL_ (some 14) rfl rfl Try.func41 (by kernel_rfl) rfl #[.slice A0 l0.length c0, .bool false] rfl (by (try simp only [List.map_toArray, List.map_cons, List.map_nil]); first | done | rfl | (simp only [List.length_drop, List.length_take]; rfl)) ?_; (with_reducible refine (spec_l07Asked.calls k _ _ l0 false t237 _ ?side1 ?side2 A9.out).mono ?_); (case side1 => repeat (first | exact HR0.out | (with_reducible refine Kd.C_alloc ?_ _) | (with_reducible refine Kd.C_drewN ?_ _) | (with_reducible refine Kd.C_drew ?_))); (case side2 => exact HC0.out); rintro e w10 ⟨rfl, hb⟩; refine ⟨_, rfl, ?_⟩; have n0_ := Aside0.mk (below_step (by repeat (first | (with_reducible first | exact HB.out | apply below_alloc | apply pw_below_drewN | apply below_drew1) | exact HB.out)) hb); clear HB; have HB := n0_; clear n0_; (try clear hb); (try clear hb2); (try clear hk); (try clear hi)))
  go_ret
  exact ⟨by first | rfl | (simp [errW_none, errW_some] <;> rfl) | (simp [*, errW_none, errW_some] <;> rfl), by repeat (first | (with_reducible first | exact HB.out | apply below_alloc | apply pw_below_drewN | apply below_drew1) | exact HB.out)⟩

end Go.Proofs.Ytokeeplkbgdokaa.Pq

/- Functions of the program as Lean functions, each with a proof that a call of it comes to just that. Written by this session's program wip/tools/myprint.py. -/
namespace Go.Proofs.Ytokeeplkbgdokaa.Pq
open Go.RowKit Go.Proofs.YtokeeplkbgdokaaW.PrintWords Go.Proofs.YtokeeplkbgdokaaW.PrintLast Go.Proofs.YtokeeplkbgdokaaW.PrintMore
attribute [local go_sem] max2_int min2_int max_two min_two max_three min_three max_four min_four   -- for this text's walks alone
set_option linter.unusedVariables false
set_option linter.unusedSimpArgs false

-- assumed: function 30

end Go.Proofs.Ytokeeplkbgdokaa.Pq

namespace Go.Proofs.Ytokeeplkbgdokaa.Pq
open Go.RowKit Go.Proofs.YtokeeplkbgdokaaW.PrintWords Go.Proofs.YtokeeplkbgdokaaW.PrintLast Go.Proofs.YtokeeplkbgdokaaW.PrintMore
attribute [local go_sem] max2_int min2_int max_two min_two max_three min_three max_four min_four   -- for this text's walks alone
set_option linter.unusedVariables false
set_option linter.unusedSimpArgs false

/-! ### spec_BestPlan: function 8 -/
def spec_BestPlan.f (k : Nat) (l0 : List (S40)) (a1 : Int) (a2 : Int) : Option (List Int × Int × Int) := (spec_l07Game.f k l0 a1 a2).bind fun t245 => (if t245 = 0 then ((spec_l07Planned.f l0 a1 a2).bind fun t246 => ((spec_l07Sum.f k l0 t246).bind fun t249 => (some (t246, t249, 0)))) else (some ((([] : List Int)), 0, t245)))
theorem spec_BestPlan.mono : ∀ a0 a1 a2 k, LeO (spec_BestPlan.f k a0 a1 a2) (spec_BestPlan.f (k + 1) a0 a1 a2) := by
 intro a0 a1 a2 k
 unfold spec_BestPlan.f
 repeat' first
   | (with_reducible exact spec_l07Game.mono _ _ _ _)
   | (with_reducible exact spec_l07Sum.mono _ _ _)
   | (with_reducible exact LeO.refl _)
   | (with_reducible exact LeO.none _)
   | (with_reducible refine LeO.ite ?_ ?_)
   | (with_reducible refine LeO.bind ?_ (fun _ => ?_))
   | exact spec_l07Game.mono _ _ _ _
   | exact spec_l07Sum.mono _ _ _
   | exact LeO.none _
   | refine LeO.ite ?_ ?_
   | refine LeO.bind ?_ (fun _ => ?_)
set_option maxHeartbeats 8000000 in
set_option maxRecDepth 100000 in
theorem spec_BestPlan.calls (k : Nat) (A0 : Option Addr) (c0 : Nat) (l0 : List (S40)) (a1 : Int) (a2 : Int) (r1 : List Int) (r2 : Int) (r3 : Int) (w : World) (hr0 : Kd.C k40 w A0 l0.length l0) (hc0 : l0.length ≤ c0) (h : spec_BestPlan.f k l0 a1 a2 = some (r1, r2, r3)) :
  Calls Try.prog 8 #[.slice A0 l0.length c0, .int .i64 a1, .int .i64 a2] w fun e w' => ∃ v0_ : Value, e = .returned (.tuple #[v0_, .int .i64 r2, .int .i64 r3]) ∧ Kd.R (Kd.int .i64) 2 w' w.heap.size (fun _ => True) v0_ r1 ∧ Below w.heap.size w w' := by
 have HR0 := Aside0.mk hr0
 have HC0 := Aside0.mk hc0
 clear hr0 hc0
 have HB := Aside0.mk (Below.refl w.heap.size w)
 have H : ((spec_l07Game.f k l0 a1 a2).bind fun t245 => (if t245 = 0 then ((spec_l07Planned.f l0 a1 a2).bind fun t246 => ((spec_l07Sum.f k l0 t246).bind fun t249 => (some (t246, t249, 0)))) else (some ((([] : List Int)), 0, t245)))) = some (r1, r2, r3) := h
 clear h
 replace H := Option.bind_eq_some_iff.mp H
 obtain ⟨t245, A40, H⟩ := H
 replace H : (if t245 = 0 then ((spec_l07Planned.f l0 a1 a2).bind fun t246 => ((spec_l07Sum.f k l0 t246).bind fun t249 => (some (t246, t249, 0)))) else (some ((([] : List Int)), 0, t245))) = some (r1, r2, r3) := H
 have A4 := Aside0.mk A40
 clear A40
 by_cases c5 : t245 = 0
 ·rw [if_pos c5] at H
  have c5b0 : (t245 == 0) = true := beq_iff_eq.mpr c5
  have c5b1 : (t245 != 0) = false := bne_eq_false_iff_eq.mpr c5
  clear c5
  replace H := Option.bind_eq_some_iff.mp H
  obtain ⟨t246, A60, H⟩ := H
  replace H : ((spec_l07Sum.f k l0 t246).bind fun t249 => (some (t246, t249, 0))) = some (r1, r2, r3) := H
  have A6 := Aside0.mk A60
  clear A60
  replace H := Option.bind_eq_some_iff.mp H
  obtain ⟨t249, A70, H⟩ := H
  replace H : (some (t246, t249, 0)) = some (r1, r2, r3) := H
  have A7 := Aside0.mk A70
  clear A70
  simp only [Option.some.injEq, Prod.mk.injEq] at H
  obtain ⟨rfl, rfl, rfl⟩ := H
  go_enter Try.func8, Try.ntmps8
  go_wp2_with (first | ((with_reducible refine gate_callee (f := 29) rfl ?_); refine goesL_ (some 14) rfl rfl Try.func29 (by kernel_rfl) rfl #[.slice A0 l0.length c0, .int .i64 a1, .int .i64 a2] rfl (by (try simp only [List.map_toArray, List.map_cons, List.map_nil]); first | done | rfl | (simp only [List.length_drop, List.length_take]; rfl)) ?_; (with_reducible refine (spec_l07Game.calls k _ _ l0 a1 a2 t245 _ ?side1 ?side2 A4.out).mono ?_); (case side1 => repeat (first | exact HR0.out | (with_reducible refine Kd.C_alloc ?_ _) | (with_reducible refine Kd.C_drewN ?_ _) | (with_reducible refine Kd.C_drew ?_))); (case side2 => exact HC0.out); rintro e w8 ⟨rfl, hb⟩; refine ⟨_, rfl, ?_⟩; have n0_ := Aside0.mk (below_step (by repeat (first | (with_reducible first | exact HB.out | apply below_alloc | apply pw_below_drewN | apply below_drew1) | exact HB.out)) hb); clear HB; have HB := n0_; clear n0_; (try clear hb); (try clear hb2); (try clear hk); (try clear hi)) | ((with_reducible refine gate_callee (f := 30) rfl ?_); refine goesL_ (some 22) rfl rfl Try.func30 (by kernel_rfl) rfl #[.slice A0 l0.length c0, .int .i64 a1, .int .i64 a2] rfl (by (try simp only [List.map_toArray, List.map_cons, List.map_nil]); first | done | rfl | (simp only [List.length_drop, List.length_take]; rfl)) ?_; (with_reducible refine (spec_l07Planned.calls _ _ l0 a1 a2 t246 _ ?side1 ?side2 A6.out).mono ?_); (case side1 => repeat (first | exact (Kd.C_below HR0.out HB.out) | (with_reducible refine Kd.C_alloc ?_ _) | (with_reducible refine Kd.C_drewN ?_ _) | (with_reducible refine Kd.C_drew ?_))); (case side2 => exact HC0.out); rintro e w9 ⟨v247, rfl, ho0, hb⟩; refine ⟨_, rfl, ?_⟩; have n0_ := Aside0.mk (Kd.R_lower ho0 (below_size (by repeat (first | (with_reducible first | exact HB.out | apply below_alloc | apply pw_below_drewN | apply below_drew1) | exact HB.out)))); have n1_ := Aside0.mk (below_step (by repeat (first | (with_reducible first | exact HB.out | apply below_alloc | apply pw_below_drewN | apply below_drew1) | exact HB.out)) hb); clear HB; have HO248 := n0_; have HB := n1_; clear n0_ n1_; (try clear hb); (try clear hb2); (try clear hk); (try clear hi); (try clear ho0); obtain ⟨Ao10, co10, eo10⟩ := Kd.R_slice HO248.out; subst eo10) | ((with_reducible refine gate_callee (f := 31) rfl ?_); refine goesL_ (some 26) rfl rfl Try.func31 (by kernel_rfl) rfl #[.slice A0 l0.length c0, .slice Ao10 t246.length co10] rfl (by (try simp only [List.map_toArray, List.map_cons, List.map_nil]); first | done | rfl | (simp only [List.length_drop, List.length_take]; rfl)) ?_; (with_reducible refine (spec_l07Sum.calls k _ _ l0 _ _ t246 t249 _ ?side1 ?side2 ?side3 ?side4 A7.out).mono ?_); (case side1 => repeat (first | exact (Kd.C_below HR0.out HB.out) | (with_reducible refine Kd.C_alloc ?_ _) | (with_reducible refine Kd.C_drewN ?_ _) | (with_reducible refine Kd.C_drew ?_))); (case side2 => exact HC0.out); (case side3 => repeat (first | exact (Kd.R_reads' HO248.out).2.2 | (with_reducible refine Kd.C_alloc ?_ _) | (with_reducible refine Kd.C_drewN ?_ _) | (with_reducible refine Kd.C_drew ?_))); (case side4 => exact (Kd.R_reads' HO248.out).2.1); rintro e w11 ⟨rfl, hb⟩; refine ⟨_, rfl, ?_⟩; have n0_ := Aside0.mk (Kd.R_below (by (with_reducible repeat (first | apply Kd.R_alloc | apply Kd.R_drewN | apply Kd.R_drew)); exact HO248.out) hb); have n1_ := Aside0.mk (below_step (by repeat (first | (with_reducible first | exact HB.out | apply below_alloc | apply pw_below_drewN | apply below_drew1) | exact HB.out)) hb); clear HO248; clear HB; have HO248 := n0_; have HB := n1_; clear n0_ n1_; (try clear hb); (try clear hb2); (try clear hk); (try clear hi)))
  go_ret3
  exact ⟨_, by first | rfl | (simp [errW_none, errW_some] <;> rfl) | (simp [*, errW_none, errW_some] <;> rfl), by (with_reducible repeat (first | apply Kd.R_alloc | apply Kd.R_drewN | apply Kd.R_drew)); exact HO248.out, by repeat (first | (with_reducible first | exact HB.out | apply below_alloc | apply pw_below_drewN | apply below_drew1) | exact HB.out)⟩
 ·rw [if_neg c5] at H
  have c5b0 : (t245 == 0) = false := beq_eq_false_iff_ne.mpr c5
  have c5b1 : (t245 != 0) = true := bne_iff_ne.mpr c5
  obtain ⟨y250, hy250⟩ : ∃ y_ : List Int, y_ = (([] : List Int)) := ⟨_, rfl⟩
  replace H : (some (y250, 0, t245)) = some (r1, r2, r3) := by first | (rw [hy250]; with_reducible exact H) | (have H2_ := (Option.bind_some _ _).symm.trans H; rw [hy250]; with_reducible exact H2_) | (have H2_ := (Option.bind_some _ _).symm.trans H; with_reducible exact H2_) | with_reducible exact H | (rw [hy250]; exact H) | exact H
  have Ny250 := Aside0.mk hy250
  clear hy250
  simp only [Option.some.injEq, Prod.mk.injEq] at H
  obtain ⟨rfl, rfl, rfl⟩ := H
  go_enter Try.func8, Try.ntmps8
  go_wp2_with (first | ((with_reducible refine gate_callee (f := 29) rfl ?_); refine goesL_ (some 14) rfl rfl Try.func29 (by kernel_rfl) rfl #[.slice A0 l0.length c0, .int .i64 a1, .int .i64 a2] rfl (by (try simp only [List.map_toArray, List.map_cons, List.map_nil]); first | done | rfl | (simp only [List.length_drop, List.length_take]; rfl)) ?_; (with_reducible refine (spec_l07Game.calls k _ _ l0 a1 a2 t245 _ ?side1 ?side2 A4.out).mono ?_); (case side1 => repeat (first | exact HR0.out | (with_reducible refine Kd.C_alloc ?_ _) | (with_reducible refine Kd.C_drewN ?_ _) | (with_reducible refine Kd.C_drew ?_))); (case side2 => exact HC0.out); rintro e w12 ⟨rfl, hb⟩; refine ⟨_, rfl, ?_⟩; have n0_ := Aside0.mk (below_step (by repeat (first | (with_reducible first | exact HB.out | apply below_alloc | apply pw_below_drewN | apply below_drew1) | exact HB.out)) hb); clear HB; have HB := n0_; clear n0_; (try clear hb); (try clear hb2); (try clear hk); (try clear hi)) | ((with_reducible refine gate_dst (N := 17) rfl ?_); refine Kd.R_lit (Kd.int .i64) _ 2 ?hg (N := 17) ?hd (xs := ([] : List Int)) (inner := []) (ok := fun _ => True) (okp := fun _ => True) ?hr ?hp (fun _ hk => hk) trivial (Below.refl _ _) (Nat.le_refl _) (by simp) ?_; (case hd => rfl); (case hg => rfl); (case hr => first | (go_simp; done) | (go_simp; rfl)); (case hp => exact (Reps.none _ _)); intro v251 w13 ho14 hb hg_ hnew_; clear hg_ hnew_; (first | rw [← Ny250.out] at ho14 | (simp only [Int.reduceToNat] at ho14; rw [← Ny250.out] at ho14)); have n0_ := Aside0.mk (Kd.R_lower ho14 (below_size (by repeat (first | (with_reducible first | exact HB.out | apply below_alloc | apply pw_below_drewN | apply below_drew1) | exact HB.out)))); have n1_ := Aside0.mk (below_step (by repeat (first | (with_reducible first | exact HB.out | apply below_alloc | apply pw_below_drewN | apply below_drew1) | exact HB.out)) hb); clear HB; have HO252 := n0_; have HB := n1_; clear n0_ n1_; clear hb ho14))
  go_ret3
  exact ⟨_, by first | rfl | (simp [errW_none, errW_some] <;> rfl) | (simp [*, errW_none, errW_some] <;> rfl), by (with_reducible repeat (first | apply Kd.R_alloc | apply Kd.R_drewN | apply Kd.R_drew)); exact HO252.out, by repeat (first | (with_reducible first | exact HB.out | apply below_alloc | apply pw_below_drewN | apply below_drew1) | exact HB.out)⟩

end Go.Proofs.Ytokeeplkbgdokaa.Pq
