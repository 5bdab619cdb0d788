/- FnExactReadDiary: for every text the program's ReadDiary returns what the reference's returns, and its list is memory of its own. Conditions: the library's listed tables and error values hold what their initialisers lay (tied by the card). -/
import Derived.Test.YtenfegfoaobehaaDoorCards
import Derived.Test.YtenfegfoaobehaaDoorTie
import Derived.Test.YtenfegfoaobehaaDoorRdS
import Derived.WalkKit
import Derived.ProofKit
import Derived.OpenShut
import Derived.ChangeOld
import Derived.ChangeSame
import Derived.Lib.LaidTab
import Derived.Deep.DeepHandedRow
import Derived.Stop.LaidErr
import Derived.MakeChecks
namespace Go.Proofs.YtenfegfoaobehaaDoor.fnExactReadDiary
open Go.ChangeShapes Go.WideShapes Go.ChangeAt Go.RowKit Go.Deep Go.Proofs.YtenfegfoaobehaaDoorW.PrintWords Go.Proofs.YtenfegfoaobehaaDoorW.PrintLast Go.Proofs.YtenfegfoaobehaaDoorW.PrintMore Go.Proofs.YtenfegfoaobehaaDoor.Rd Go.Proofs.YtenfegfoaobehaaDoor.RdP
set_option linter.unusedVariables false

theorem own : ownKnob Tryd.prog.godebug = none := by kernel_rfl
theorem laidOut : laidOutB Tryd.prog = true := by kernel_rfl
theorem gTab : Tryd.prog.globalNamed "internal/strconv.uint64pow10" = some 3 := by kernel_rfl
theorem gTabType : (Tryd.prog.globals[3]?).map (·.type) = some 83 := by kernel_rfl
theorem cellsTab : Tryd.prog.cellsOf 83 = 20 := by kernel_rfl
theorem cellsU64 : Tryd.prog.cellsOf 61 = 1 := by kernel_rfl
theorem gR : Tryd.prog.globalNamed "strconv.ErrRange" = some 2 := by kernel_rfl
theorem gRType : (Tryd.prog.globals[2]?).map (·.type) = some 47 := by kernel_rfl
theorem gS : Tryd.prog.globalNamed "strconv.ErrSyntax" = some 1 := by kernel_rfl
theorem gSType : (Tryd.prog.globals[1]?).map (·.type) = some 47 := by kernel_rfl
theorem cellsErr : Tryd.prog.cellsOf 94 = 1 := by kernel_rfl
theorem cellsStr : Tryd.prog.cellsOf 9 = 1 := by kernel_rfl
theorem star : "*" ++ "errors.errorString" = "*errors.errorString" := by decide
theorem rowErr (u : TypeId) (h : Tryd.prog.typeName? 3 u = some "*errors.errorString") : u = 92 :=
  typeName_ptr_named (nm := "errors.errorString") (by rw [star]; kernel_rfl) (by kernel_rfl) (by decide) u (by rw [star]; exact h)

theorem table {W : World} (h : laidMetH Tryd.prog Rows.fnExactReadDiaryRow.laid W) (hsh : W.ShapedOpen Tryd.prog) : Tab W := by
  have h1 : laidMet Tryd.prog Rows.fnExactReadDiaryRow.laid W := h
  have h3 := laidMet.tail (laidMet.tail h1)
  have h5 := laidMet.tail (laidMet.tail h3)
  have h6 := laidMet.tail h5
  obtain ⟨aR, sR, vR, _⟩ := laid_sentinel h5 gR gRType Tryd.underlying47 rowErr Tryd.underlying92 Tryd.underlying94 rfl rfl Tryd.underlying9 cellsErr cellsStr
  obtain ⟨aS, sS, vS, _⟩ := laid_sentinel h6 gS gSType Tryd.underlying47 rowErr Tryd.underlying92 Tryd.underlying94 rfl rfl Tryd.underlying9 cellsErr cellsStr
  refine ⟨Lib.tabIs_of_head (rest := _) gTab gTabType Tryd.underlying83 Tryd.underlying61 cellsU64 cellsTab h3, Tryd.laysM146.s1_3 W hsh, ⟨_, _, World.var?_cell gS vS 0⟩, ⟨_, _, World.var?_cell gR vR 0⟩⟩

set_option maxRecDepth 100000 in
theorem contract (H : Type) (enc : TypeId × Value → H) (W : World) (base : Nat) (args : Array Value) (ds gs : List (DataW H)) (before : List MemPlace)
    (hval : ∀ (j : Nat) t v, Tryd.f3.params[j]? = some t → args[j]? = some v → Value.okWide Tryd.prog W .any base t v)
    (hW : DataW.Whole enc Tryd.prog Tryd.f3.params.toList Rows.fnExactReadDiarySpec.vars false W args.toList ds gs before) (hL : laidMetH Tryd.prog Rows.fnExactReadDiaryRow.laid W) (hsh : W.ShapedOpen Tryd.prog) :
    Calls Tryd.prog 3 args W fun e W' => ∃ v, e = .returned v ∧ Rows.fnExactReadDiarySpec.post enc Tryd.prog Tryd.f3 false true false false W args v W' := by
  have hW' := hW
  obtain ⟨p, q, hA0, hV, rfl, hfz, hnd⟩ := hW
  have hA : DataW.TrodAll enc Tryd.prog W 0 (fun _ => true) true Tryd.f3.params.toList args.toList ds p := hA0
  rw [Tryd.params3] at hA hval
  obtain ⟨v0, vs0, d0, ds0, p0, q0, hargs, rfl, rfl, h0, r0⟩ := trodAll_cons hA
  obtain ⟨rfl, rfl, rfl⟩ := trodAll_nil r0
  obtain rfl : args = #[v0] := by cases args; simp_all
  obtain ⟨rfl, rfl⟩ := trodVars_none hV
  obtain ⟨s, rfl, rfl, rfl, hs⟩ := Go.ChangeMaps.open_string Tryd.underlying9 (hval 0 9 v0 rfl rfl) h0
  clear hA0 hval
  obtain ⟨fuelN, hF⟩ := rd_law s
  refine (laws_FnExactReadDiary.calls fuelN s true W (table hL hsh) hF).mono fun e W' ⟨he, bel⟩ => ?_
  subst he
  exact ⟨_, rfl, _, _, _, [], _, [], hW', trodAll_mk1 (shut_bool Tryd.underlying4 _), (trodAll_cons_mk (Go.ChangeMaps.shut_string Tryd.underlying9 hs) trodAll_mk0), rfl, bel.frame _, fun h => by cases h⟩

/-- The cells of a table's datum. -/
def litsOf : DataW Unit → List Value
  | .agg l => (l.map fun | .lit (.int k n) => [Value.int k n] | .agg m => (m.map fun | .lit (.int k n) => Value.int k n | _ => undef) | _ => [undef]).flatten
  | _ => []
def setTab (cs : Array Value) : Obj → Obj
  | .cells _ t frozen => .cells cs t frozen
  | o => o
noncomputable def laidWorld (os : Os) : World :=
  let N := (World.settled Tryd.prog os).heap.size
  let w0 := World.holding Tryd.prog os ⟨#[
    .cells #[.string ⟨#[118, 97, 108, 117, 101, 32, 111, 117, 116, 32, 111, 102, 32, 114, 97, 110, 103, 101]⟩] 94, .cells #[.string ⟨#[105, 110, 118, 97, 108, 105, 100, 32, 115, 121, 110, 116, 97, 120]⟩] 94], #[], []⟩
  let h0 := (w0.heap.modify 2 (setTab #[.iface 92 (.pointer (some ⟨N, 0, none⟩))])).modify 1 (setTab #[.iface 92 (.pointer (some ⟨N + 1, 0, none⟩))])
  let h1 := ((h0.modify 3 (setTab (litsOf Rows.laid_internal_strconv_uint64pow10).toArray)).modify 6 (setTab (litsOf Rows.laid_math_bits_deBruijn32tab).toArray)).modify 7 (setTab (litsOf Rows.laid_math_bits_deBruijn64tab).toArray)
  let h2 := (h1.modify 5 (setTab (litsOf Rows.laid_unicode_utf8_acceptRanges).toArray)).modify 4 (setTab (litsOf Rows.laid_unicode_utf8_first).toArray)
  { w0 with heap := h2 }
set_option maxRecDepth 1000000 in
theorem laid_met (os : Os) : laidMet Tryd.prog Rows.fnExactReadDiaryRow.laid ((laidWorld os).forCall (fun _ _ => 0) ⟨#[], #[.string ⟨#[]⟩], []⟩).memory :=
  laidMet_of_run' 10 (by kernel_rfl) (by kernel_rfl)
theorem reads (os : Os) {H : Type} (enc : TypeId × Value → H) : ∃ places, DataW.whole enc Tryd.prog ((laidWorld os).forCall (fun _ _ => 0) ⟨#[], #[.string ⟨#[]⟩], []⟩).memory Tryd.f3.params.toList Rows.fnExactReadDiarySpec.vars false #[Value.string ⟨#[]⟩].toList 8 = some ([.lit (.string [])], [], places) :=
  ⟨[], by kernel_rfl⟩

set_option maxRecDepth 100000 in
theorem lifted (os : Os) (started : os.Started) (H : Type) (enc : TypeId × Value → H) (F : Stop.Interp) :
    ReturnsInHanded {} Tryd.checked os 3 .any ((OpenSpec.ofChange Rows.fnExactReadDiarySpec).preRow enc Tryd.prog Tryd.f3 Rows.fnExactReadDiaryRow.domain false Rows.fnExactReadDiaryRow.laid) (((OpenSpec.ofChange Rows.fnExactReadDiarySpec).at F).post enc Tryd.prog Tryd.f3 false true false false) := by
  obtain ⟨places, hx⟩ := reads os enc
  refine returnsInHanded_of_row (C := Tryd.checked) (s := OpenSpec.ofChange Rows.fnExactReadDiarySpec) own started (by kernel_rfl) Tryd.func3
    (witness_row_at (enc := enc) (C := Tryd.checked) false (laidWorld os) #[.string ⟨#[]⟩] rfl (by kernel_rfl) (by kernel_rfl) (by kernel_rfl)
      (OpenSpec.preRow_of_cond 8 hx (by kernel_rfl) (fun k hk => by cases hk) (by kernel_rfl) (laid_met os))) ?_
  intro W base args ds gs before hval hW _ _ _ hL hsh _
  exact contract H enc W base args ds gs before hval hW hL hsh

theorem said : Rows.FnExactReadDiarySaid :=
  OpenClaim.holds_of_cond 3 Tryd.f3 rfl rfl rfl rfl rfl rfl rfl ⟨rfl, rfl, rfl, rfl, rfl⟩ rfl rfl rfl rfl rfl (by kernel_rfl) Tryd.func3 (by kernel_rfl)
    (of_decide_eq_true (by kernel_rfl)) (by unfold Func.isWrapper; first | (rw [if_pos (by decide +kernel)]; kernel_rfl) | (rw [if_neg (by decide +kernel)]; exact ⟨rfl, rfl⟩))
    (fun os started H enc _ F => by rw [OpenClaim.pre_eq_preRow]; exact lifted os started H enc F)

theorem plain (f : FuncId) (fn : Func) (hf : Tryd.pinned.checked.prog.funcNamed "loop.example/g01338/laws.FnExactReadDiary" = some f) (hfn : Tryd.pinned.checked.prog.funcs[f]? = some fn) :
    true = Tryd.pinned.checked.prog.looks [] ∧ ∀ (j : Nat) t, fn.params[j]? = some t → Tryd.pinned.checked.prog.wantsStandIn t = false := by
  obtain rfl : f = 3 := Option.some.inj ((show Tryd.prog.funcNamed "loop.example/g01338/laws.FnExactReadDiary" = some 3 by kernel_rfl).symm.trans hf) |>.symm
  obtain rfl : fn = Tryd.f3 := (Option.some.inj (Tryd.func3.symm.trans hfn)).symm
  refine ⟨by kernel_rfl, fun j t ht => ?_⟩
  rw [Tryd.params3] at ht
  obtain rfl : t = 9 := by simpa using Array.mem_of_getElem? ht
  exact (show Tryd.prog.wantsStandIn 9 = false by kernel_rfl)

theorem card : Rows.FnExactReadDiaryCardSaid :=
  Claim7.holds_tied_plain_at .later [] _ _ _ _ said (fun _ h => by cases h) (by kernel_rfl) (fun _ h => by cases h) fnExactReadDiary_row_tie rfl ⟨rfl, rfl⟩ (by kernel_rfl) rfl plain (by kernel_rfl)
#print axioms card
end Go.Proofs.YtenfegfoaobehaaDoor.fnExactReadDiary
namespace Go.Proofs.YtenfegfoaobehaaDoor
theorem fnExactReadDiary_holds : Rows.FnExactReadDiaryCardSaid := fnExactReadDiary.card
end Go.Proofs.YtenfegfoaobehaaDoor
