/- A flock's numbers: what (*Flock).numbersOf and (*Flock).isPlain return. -/
import Derived.Test.YtcifgakahpnjiaaDoorTf
import Derived.Lib.QuietBelow
import Derived.RegionTactic
import Derived.BigRegion
import Derived.BigQuiet
namespace Go.Proofs.YtcifgakahpnjiaaDoor
open Go.RowKit Go.Proofs.YtcifgakahpnjiaaDoorW.PrintWords Go.Proofs.YtcifgakahpnjiaaDoorW.PrintLast Go.Proofs.YtcifgakahpnjiaaDoorW.PrintMore Go.Proofs.YtcifgakahpnjiaaDoor.Tf
set_option linter.unusedSimpArgs false
set_option linter.unusedVariables false

abbrev flCells (w : World) (b : Addr) (x : S87) : Prop := w.cell? (b.add 0) = some (.int .i16 x.f0) ∧ w.cell? (b.add 1) = some (.int .i16 x.f1) ∧ w.cell? (b.add 2) = some (.int .i16 x.f2) ∧ w.cell? (b.add 3) = some (.int .i16 x.f3) ∧ w.cell? (b.add 4) = some (.int .i16 x.f4) ∧ w.cell? (b.add 5) = some (.int .i8 x.f5)
abbrev flWf (x : S87) : Prop := (-32768 ≤ x.f0 ∧ x.f0 ≤ 32767) ∧ (-32768 ≤ x.f1 ∧ x.f1 ≤ 32767) ∧ (-32768 ≤ x.f2 ∧ x.f2 ≤ 32767) ∧ (-32768 ≤ x.f3 ∧ x.f3 ≤ 32767) ∧ (-32768 ≤ x.f4 ∧ x.f4 ≤ 32767) ∧ (-128 ≤ x.f5 ∧ x.f5 ≤ 127)

theorem results_cell_row2 {P : Program} {fn : Func} {p q : Tmp} {ty : TypeId} (h : fn.results = #[.cell p ty, .cell q ty]) (tmps : Array Value) (w : World) (g g' : Nat) (t t' : TypeId) (cs cs' : Array Value) (fr fr' : Nat × Nat) (d : TypeDesc)
    (hp : tmps.getD p undef = .pointer (some ⟨g, 0, none⟩)) (hq : tmps.getD q undef = .pointer (some ⟨g', 0, none⟩)) (hg : w.heap[g]? = some (.cells cs t fr)) (hg' : w.heap[g']? = some (.cells cs' t' fr'))
    (hu : P.underlying ty = some d) (hd : (match d with | .struct _ | .array _ _ => true | _ => false) = true) (hi : (P.info? ty).map (·.size) = some cs.size) (hs : cs'.size = cs.size) :
    (results fn tmps).run P w = .ok (.tuple #[.agg cs, .agg cs']) w := by
  have hp' : tmps[p]?.getD undef = .pointer (some ⟨g, 0, none⟩) := by simpa using hp
  have hq' : tmps[q]?.getD undef = .pointer (some ⟨g', 0, none⟩) := by simpa using hq
  simp [results, h, hp', hq', asAddr, run_loadVar_row w g t ty cs fr d hg hu hd hi, run_loadVar_row w g' t' ty cs' fr' d hg' hu hd (by rw [hi, hs]), Sem.run_bind, Result.andThen]

set_option maxHeartbeats 4000000 in
set_option maxRecDepth 100000 in
theorem numbersOf_calls (g : Nat) (x : S87) (hx : flWf x) (w : World) (h : flCells w ⟨g, 0, none⟩ x) :
    Calls Tryd.prog 52 #[.pointer (some ⟨g, 0, none⟩)] w fun e w' => e = .returned (.tuple #[.agg #[.int .i64 x.f0, .int .i64 x.f1, .int .i64 x.f2, .int .i64 x.f3, .int .i64 x.f4, .int .i64 x.f5], .agg #[.int .i64 99, .int .i64 200, .int .i64 20, .int .i64 1000, .int .i64 200, .int .i64 2]]) ∧ Below w.heap.size w w' := by
  obtain ⟨h0, h1, h2, h3, h4, h5⟩ := h
  simp only [add_plain, Nat.zero_add] at h0 h1 h2 h3 h4 h5
  have HX := Aside0.mk hx
  clear hx
  go_enter Tryd.func52, Tryd.ntmps52
  go_wp2_with fail
  have hb : Below w.heap.size w ((w.alloc (.cells #[.int .i64 0, .int .i64 0, .int .i64 0, .int .i64 0, .int .i64 0, .int .i64 0] 90)).alloc (.cells #[.int .i64 0, .int .i64 0, .int .i64 0, .int .i64 0, .int .i64 0, .int .i64 0] 90)) :=
    ((Below.refl _ _).alloc (Nat.le_refl _) _).alloc (by simp) _
  replace h0 := (hb.cell (World.block_lt_of_cell? w _ h0)).trans h0
  replace h1 := (hb.cell (World.block_lt_of_cell? w _ h1)).trans h1
  replace h2 := (hb.cell (World.block_lt_of_cell? w _ h2)).trans h2
  replace h3 := (hb.cell (World.block_lt_of_cell? w _ h3)).trans h3
  replace h4 := (hb.cell (World.block_lt_of_cell? w _ h4)).trans h4
  replace h5 := (hb.cell (World.block_lt_of_cell? w _ h5)).trans h5
  go_region
  go_wp2_with fail
  refine bodyPost_ret (results_cell_row2 (P := Tryd.prog) rfl _ _ w.heap.size (w.heap.size + 1) 90 90 _ _ _ _ _ rfl rfl (heap_alloc2_old w _ _) (heap_alloc2_new w _ _) Tryd.underlying90 rfl (by kernel_rfl) rfl) rfl ?_
  obtain ⟨x0, x1, x2, x3, x4, x5⟩ := HX.out
  have e0 : wrap64 x.f0 = x.f0 := by unfold wrap64; omega
  have e1 : wrap64 x.f1 = x.f1 := by unfold wrap64; omega
  have e2 : wrap64 x.f2 = x.f2 := by unfold wrap64; omega
  have e3 : wrap64 x.f3 = x.f3 := by unfold wrap64; omega
  have e4 : wrap64 x.f4 = x.f4 := by unfold wrap64; omega
  have e5 : wrap64 x.f5 = x.f5 := by unfold wrap64; omega
  rw [e0, e1, e2, e3, e4, e5]
  exact ⟨rfl, (((Below.refl _ _).alloc (Nat.le_refl _) _).alloc (by simp) _).drew⟩
end Go.Proofs.YtcifgakahpnjiaaDoor
