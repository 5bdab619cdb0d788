/- FnExactFlocksText: for every list the program's function returns what the reference's returns, and the list reads afterwards as it read before. Conditions: the library's three listed tables hold what their initialisers lay (tied by the card). -/
import Derived.Test.YtcifgakahpnjiaaDoorCards
import Derived.Test.YtcifgakahpnjiaaDoorTie
import Derived.Test.YtcifgakahpnjiaaDoorFlL
import Derived.Test.YtcifgakahpnjiaaDoorRowK
namespace Go.Proofs.YtcifgakahpnjiaaDoor.fnExactFlocksText
open Go.ChangeShapes Go.WideShapes Go.ChangeAt Go.RowKit Go.Deep Go.Proofs.YtcifgakahpnjiaaDoorW.PrintWords Go.Proofs.YtcifgakahpnjiaaDoorW.PrintLast Go.Proofs.YtcifgakahpnjiaaDoorW.PrintMore Go.Proofs.YtcifgakahpnjiaaDoor.Tf Go.Proofs.YtcifgakahpnjiaaDoor.TfP
set_option linter.unusedVariables false

theorem gTabType : (Tryd.prog.globals[0]?).map (·.type) = some 114 := by kernel_rfl
theorem cellsTab : Tryd.prog.cellsOf 114 = 20 := by kernel_rfl
theorem cellsU64 : Tryd.prog.cellsOf 106 = 1 := by kernel_rfl
theorem table {W : World} (h : laidMetH Tryd.prog Rows.fnExactFlocksTextRow.laid W) : Tab W := by
  have h1 : laidMet Tryd.prog Rows.fnExactFlocksTextRow.laid W := h
  exact Lib.tabIs_of_head (rest := []) gTab gTabType Tryd.underlying114 Tryd.underlying106 cellsU64 cellsTab (laidMet.tail (laidMet.tail h1))

set_option maxRecDepth 100000 in
theorem contract (H : Type) (enc : TypeId × Value → H) (W : World) (base : Nat) (args : Array Value) (ds gs : List (DataW H)) (before : List MemPlace)
    (hval : ∀ (j : Nat) t v, Tryd.f6.params[j]? = some t → args[j]? = some v → Value.okWide Tryd.prog W .any base t v)
    (hW : DataW.Whole enc Tryd.prog Tryd.f6.params.toList Rows.fnExactFlocksTextSpec.vars false W args.toList ds gs before) (hL : laidMetH Tryd.prog Rows.fnExactFlocksTextRow.laid W) :
    Calls Tryd.prog 6 args W fun e W' => ∃ v, e = .returned v ∧ Rows.fnExactFlocksTextSpec.post enc Tryd.prog Tryd.f6 false true false false W args v W' := by
  have hW' := hW
  obtain ⟨p, q, hA0, hV, rfl, hfz, hnd⟩ := hW
  have hA : DataW.TrodAll enc Tryd.prog W 0 (fun _ => true) true Tryd.f6.params.toList args.toList ds p := hA0
  rw [Tryd.params6] at hA hval
  obtain ⟨v0, vs0, d0, ds0, p0, q0, hargs, rfl, rfl, h0, r0⟩ := trodAll_cons hA
  obtain ⟨rfl, rfl, rfl⟩ := trodAll_nil r0
  obtain rfl : args = #[v0] := by cases args; simp_all
  obtain ⟨rfl, rfl⟩ := trodVars_none hV
  obtain ⟨a0, len0, cap0, rfl⟩ := okWide_slice Tryd.underlying43 (hval 0 43 v0 rfl rfl)
  have k0 := h0
  have lt0 : ∀ x ∈ p0, x.block < W.heap.size := by obtain ⟨m, hm⟩ := k0; exact DataW.trod_lt m _ _ _ hm
  obtain ⟨l0, rfl, hC0, hc0, hn0, hw0⟩ : ∃ l : List S89, len0 = l.length ∧ Kd.C k89 W a0 l.length l ∧ l.length ≤ cap0 ∧ l.length ≤ 9223372036854775807 ∧ ∀ x ∈ l, flWf0 x := by
    obtain ⟨fuel, hf⟩ := h0
    rcases open_slice_fields Tryd.underlying43 Tryd.underlying89 (by kernel_rfl) (by kernel_rfl) hf with ⟨hcs, _⟩ | ⟨x, l, c, m, D, Pl, hcs, _, hl, hm, hmm, _, hcell⟩
    · simp [Value.cells] at hcs
      obtain ⟨rfl, rfl, rfl⟩ := hcs
      exact ⟨[], rfl, ⟨rfl, by simp, fun h => absurd h (Nat.lt_irrefl 0)⟩, by simp, by simp, by simp⟩
    · simp [Value.cells] at hcs
      obtain ⟨rfl, rfl, rfl⟩ := hcs
      simp only [if_true] at hmm
      subst hmm
      have hall : ∀ i : Nat, ∃ s : S89, i < len0 → (W.cell? (x.add (i * 6 + 0)) = some (.int .i16 s.f0) ∧ W.cell? (x.add (i * 6 + 1)) = some (.int .i16 s.f1) ∧ W.cell? (x.add (i * 6 + 2)) = some (.int .i16 s.f2) ∧ W.cell? (x.add (i * 6 + 3)) = some (.int .i16 s.f3) ∧ W.cell? (x.add (i * 6 + 4)) = some (.int .i16 s.f4) ∧ W.cell? (x.add (i * 6 + 5)) = some (.int .i8 s.f5)) ∧ flWf0 s := by
        intro i
        by_cases hi : i < len0
        · obtain ⟨ys, n, _, _, _, hfs⟩ := hcell i (by omega)
          obtain ⟨v0, y0, c0, _, t0⟩ := hfs 0 _ rfl
          obtain ⟨v1, y1, c1, _, t1⟩ := hfs 1 _ rfl
          obtain ⟨v2, y2, c2, _, t2⟩ := hfs 2 _ rfl
          obtain ⟨v3, y3, c3, _, t3⟩ := hfs 3 _ rfl
          obtain ⟨v4, y4, c4, _, t4⟩ := hfs 4 _ rfl
          obtain ⟨v5, y5, c5, _, t5⟩ := hfs 5 _ rfl
          obtain ⟨x0, rfl, w0⟩ := int_of (k := .i16) Tryd.underlying52 t0
          obtain ⟨x1, rfl, w1⟩ := int_of (k := .i16) Tryd.underlying52 t1
          obtain ⟨x2, rfl, w2⟩ := int_of (k := .i16) Tryd.underlying52 t2
          obtain ⟨x3, rfl, w3⟩ := int_of (k := .i16) Tryd.underlying52 t3
          obtain ⟨x4, rfl, w4⟩ := int_of (k := .i16) Tryd.underlying52 t4
          obtain ⟨x5, rfl, w5⟩ := int_of (k := .i8) Tryd.underlying51 t5
          exact ⟨⟨x0, x1, x2, x3, x4, x5⟩, fun _ => ⟨⟨c0, c1, c2, c3, c4, c5⟩, wf_i16 w0, wf_i16 w1, wf_i16 w2, wf_i16 w3, wf_i16 w4, wf_i8 w5⟩⟩
        · exact ⟨⟨0, 0, 0, 0, 0, 0⟩, fun h => absurd h hi⟩
      obtain ⟨f, hf⟩ := Classical.axiomOfChoice hall
      refine ⟨(List.range len0).map f, by simp, ⟨rfl, by unfold maxLen at hm; simp; omega, fun _ => ⟨x, rfl, ?_⟩⟩, by simpa using hl, by unfold maxLen at hm; simp; omega, ?_⟩
      · intro j p hj
        have hjl : j < len0 := by have := (List.getElem?_eq_some_iff.1 hj).1; simpa using this
        have hp : f j = p := by
          rw [List.getElem?_map, List.getElem?_range hjl] at hj
          simpa using hj
        subst hp
        obtain ⟨⟨c0, c1, c2, c3, c4, c5⟩, _⟩ := hf j hjl
        refine ⟨_, rfl, k89_mk W (f j), ?_⟩
        intro i u hu
        match i, hu with
        | 0, hu => cases hu; exact c0
        | 1, hu => cases hu; exact c1
        | 2, hu => cases hu; exact c2
        | 3, hu => cases hu; exact c3
        | 4, hu => cases hu; exact c4
        | 5, hu => cases hu; exact c5
      · intro s hs
        obtain ⟨i, hi, rfl⟩ := List.mem_map.1 hs
        exact (hf i (by simpa using hi)).2
  clear hA0 hval
  refine (lawFlocksText a0 cap0 l0 W hC0 hc0 hn0 (table hL) hw0).mono fun e W' ⟨he, bel⟩ => ?_
  subst he
  exact ⟨_, rfl, _, _, _, [], _, [], hW', trodAll_mk1 (shut_bool Tryd.underlying4 _), (trodAll_cons_mk (Below.trod laidOut (by kernel_rfl) (of_decide_eq_true (by kernel_rfl)) k0 bel lt0) trodAll_mk0), rfl, bel.frame _, fun h => by cases h⟩

noncomputable def laidWorld (os : Os) : World :=
  { World.holding Tryd.prog os ⟨#[], #[], []⟩ with heap := (((World.holding Tryd.prog os ⟨#[], #[], []⟩).heap.modify 0 (setTab (litsOf Rows.laid_internal_strconv_uint64pow10))).modify 2 (setTab (litsOf Rows.laid_math_bits_deBruijn32tab))).modify 3 (setTab (litsOf Rows.laid_math_bits_deBruijn64tab)) }
theorem laid_met (os : Os) : laidMet Tryd.prog Rows.fnExactFlocksTextRow.laid ((laidWorld os).forCall (fun _ _ => 0) ⟨#[], #[.slice none 0 0], []⟩).memory :=
  laidMet_of_run' 8 (by kernel_rfl) (by kernel_rfl)
theorem reads (os : Os) {H : Type} (enc : TypeId × Value → H) : ∃ places, DataW.whole enc Tryd.prog ((laidWorld os).forCall (fun _ _ => 0) ⟨#[], #[.slice none 0 0], []⟩).memory Tryd.f6.params.toList Rows.fnExactFlocksTextSpec.vars false #[Value.slice none 0 0].toList 8 = some ([.nil], [], places) :=
  ⟨[], by kernel_rfl⟩

set_option maxRecDepth 100000 in
theorem lifted (os : Os) (started : os.Started) (H : Type) (enc : TypeId × Value → H) (F : Stop.Interp) :
    ReturnsInHanded {} Tryd.checked os 6 .any ((OpenSpec.ofChange Rows.fnExactFlocksTextSpec).preRow enc Tryd.prog Tryd.f6 Rows.fnExactFlocksTextRow.domain false Rows.fnExactFlocksTextRow.laid) (((OpenSpec.ofChange Rows.fnExactFlocksTextSpec).at F).post enc Tryd.prog Tryd.f6 false true false false) := by
  obtain ⟨places, hx⟩ := reads os enc
  refine returnsInHanded_of_row (C := Tryd.checked) (s := OpenSpec.ofChange Rows.fnExactFlocksTextSpec) own started (by kernel_rfl) Tryd.func6
    (witness_row_at (enc := enc) (C := Tryd.checked) false (laidWorld os) #[.slice none 0 0] rfl (by kernel_rfl) (by kernel_rfl) (by kernel_rfl)
      (OpenSpec.preRow_of_cond 8 hx (by kernel_rfl) (fun k hk => by cases hk) (by kernel_rfl) (laid_met os))) ?_
  intro W base args ds gs before hval hW _ _ _ hL _ _
  exact contract H enc W base args ds gs before hval hW hL

theorem said : Rows.FnExactFlocksTextSaid :=
  OpenClaim.holds_of_cond 6 Tryd.f6 rfl rfl rfl rfl rfl rfl rfl ⟨rfl, rfl, rfl, rfl, rfl⟩ rfl rfl rfl rfl rfl (by kernel_rfl) Tryd.func6 (by kernel_rfl)
    (of_decide_eq_true (by kernel_rfl)) (by unfold Func.isWrapper; first | (rw [if_pos (by decide +kernel)]; kernel_rfl) | (rw [if_neg (by decide +kernel)]; exact ⟨rfl, rfl⟩))
    (fun os started H enc _ F => by rw [OpenClaim.pre_eq_preRow]; exact lifted os started H enc F)

theorem plain (f : FuncId) (fn : Func) (hf : Tryd.pinned.checked.prog.funcNamed "loop.example/g01338/laws.FnExactFlocksText" = some f) (hfn : Tryd.pinned.checked.prog.funcs[f]? = some fn) :
    false = Tryd.pinned.checked.prog.looks [] ∧ ∀ (j : Nat) t, fn.params[j]? = some t → Tryd.pinned.checked.prog.wantsStandIn t = false := by
  obtain rfl : f = 6 := Option.some.inj ((show Tryd.prog.funcNamed "loop.example/g01338/laws.FnExactFlocksText" = some 6 by kernel_rfl).symm.trans hf) |>.symm
  obtain rfl : fn = Tryd.f6 := (Option.some.inj (Tryd.func6.symm.trans hfn)).symm
  refine ⟨by kernel_rfl, fun j t ht => ?_⟩
  rw [Tryd.params6] at ht
  obtain rfl : t = 43 := by simpa using Array.mem_of_getElem? ht
  exact (show Tryd.prog.wantsStandIn 43 = false by kernel_rfl)

theorem card : Rows.FnExactFlocksTextCardSaid :=
  Claim7.holds_tied_plain_at .later [] _ _ _ _ said (fun _ h => by cases h) (by kernel_rfl) (fun _ h => by cases h) fnExactFlocksText_row_tie rfl ⟨rfl, rfl⟩ (by kernel_rfl) rfl plain (by kernel_rfl)
#print axioms card
end Go.Proofs.YtcifgakahpnjiaaDoor.fnExactFlocksText
namespace Go.Proofs.YtcifgakahpnjiaaDoor
theorem fnExactFlocksText_holds : Rows.FnExactFlocksTextCardSaid := fnExactFlocksText.card
end Go.Proofs.YtcifgakahpnjiaaDoor
