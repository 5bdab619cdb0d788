/- What the program's DiaryText returns: the lines of all entries, or nothing where one of them is not as told or there are too many. -/
import Derived.Test.YtcifgakahpnjiaaDoorStr
import Derived.Test.YtcifgakahpnjiaaDoorDa
import Derived.Lib.QuietBelow
import Derived.Lib.ItoaLen
import Derived.Deep.DeepMust
namespace Go.Proofs.YtcifgakahpnjiaaDoor
open Go.RowKit Go.Proofs.YtcifgakahpnjiaaDoorW.PrintWords Go.Proofs.YtcifgakahpnjiaaDoorW.PrintLast Go.Proofs.YtcifgakahpnjiaaDoorW.PrintMore Go.Proofs.YtcifgakahpnjiaaDoor.Da
set_option linter.unusedSimpArgs false
set_option linter.unusedVariables false

abbrev Tab (w : World) : Prop := Lib.TabIs Tryd.prog w "internal/strconv.uint64pow10" .u64 Lib.pow10Tab
theorem Tab.on {w w' : World} (h : Tab w) (hb : Below w.heap.size w w') : Tab w' := Lib.tabBelow_of_tabIs h w' hb

def decB (n : Int) : ByteArray := ⟨(Lib.itoa n).toArray⟩

theorem decimal16_calls (n : Int) (h0 : -32768 ≤ n) (h1 : n ≤ 32767) (w : World) (ht : Tab w) :
    Calls Tryd.prog 33 #[.int .i16 n] w fun e w' => e = .returned (.string (decB n)) ∧ Below w.heap.size w w' := by
  have HT := Aside0.mk ht
  clear ht
  go_enter Tryd.func33, Tryd.ntmps33
  go_wp2_with (go_at_call 60; refine (Tryd.strconv_FormatInt_10 n (by omega) (by omega) _ HT.out).mono ?_; rintro e w' ⟨rfl, k, os, rfl⟩)
  go_ret
  exact ⟨rfl, Lib.below_grow _ _ (Nat.le_refl _) _ _⟩

def wl : List ByteArray := [⟨#[115, 111, 119]⟩, ⟨#[101, 97, 116]⟩, ⟨#[116, 97, 107, 101]⟩, ⟨#[102, 97, 108, 108]⟩]
def lineB (x : S54) : ByteArray := (((((rdOf ByteArray.empty wl x.f0) ++ ⟨#[32]⟩) ++ decB x.f1) ++ ⟨#[32]⟩) ++ decB x.f2) ++ ⟨#[10]⟩
def textB (l : List S54) : ByteArray := l.foldl (fun t x => t ++ lineB x) ⟨#[]⟩
def okE (x : S54) : Bool := decide (0 ≤ x.f0 ∧ x.f0 ≤ 3 ∧ 0 ≤ x.f1 ∧ x.f1 ≤ 99 ∧ 1 ≤ x.f2 ∧ x.f2 ≤ 1000)

theorem decB_size (n : Int) (h0 : -9223372036854775808 ≤ n) (h1 : n ≤ 9223372036854775807) : (decB n).size ≤ 21 := by
  have := Lib.itoa_length_le n h0 h1
  simpa [decB, ByteArray.size] using this
theorem wl_size (k : Int) : (rdOf ByteArray.empty wl k).size ≤ 4 := by
  unfold rdOf wl
  rcases h : k.toNat with _ | _ | _ | _ | n <;> simp [ByteArray.size, ByteArray.empty, ByteArray.emptyWithCapacity]
  exact Nat.zero_le _
theorem line_size (x : S54) (h : okE x = true) : (lineB x).size ≤ 49 := by
  simp only [okE, decide_eq_true_eq] at h
  have h1 := decB_size x.f1 (by omega) (by omega)
  have h2 := decB_size x.f2 (by omega) (by omega)
  have h3 := wl_size x.f0
  simp only [lineB, ByteArray.size_append, Pz.sz1]
  omega
theorem textB_snoc (l : List S54) (x) : textB (l ++ [x]) = textB l ++ lineB x := by simp [textB]
theorem text_size (l : List S54) (h : ∀ x ∈ l, okE x = true) : (textB l).size ≤ 49 * l.length := by
  suffices ∀ r : List S54, (∀ x ∈ r, okE x = true) → (textB r.reverse).size ≤ 49 * r.length by
    have := this l.reverse (by simpa using h)
    simpa using this
  intro r
  induction r with
  | nil => intro _; simp [textB, ByteArray.size]
  | cons x r ih =>
    intro h
    rw [List.reverse_cons, textB_snoc, ByteArray.size_append]
    have h1 := ih (fun y hy => h y (by simp [hy]))
    have h2 := line_size x (h x (by simp))
    simp only [List.length_cons]
    omega

theorem plain_is (x : S54) (h0 : -128 ≤ x.f0 ∧ x.f0 ≤ 127) (h1 : -32768 ≤ x.f1 ∧ x.f1 ≤ 32767) (h2 : -32768 ≤ x.f2 ∧ x.f2 ≤ 32767) : impl_Entry_isPlain.f x.f0 x.f1 x.f2 = some (okE x) := by
  have e0 : wrap64 x.f0 = x.f0 := by unfold wrap64; omega
  have e1 : wrap64 x.f1 = x.f1 := by unfold wrap64; omega
  have e2 : wrap64 x.f2 = x.f2 := by unfold wrap64; omega
  simp only [impl_Entry_isPlain.f, impl_within.f, e0, e1, e2, okE]
  by_cases a : x.f0 ≥ 0 <;> by_cases b : x.f0 ≤ 3 <;> by_cases c : x.f1 ≥ 0 <;> by_cases d : x.f1 ≤ 99 <;> by_cases e : x.f2 ≥ 1 <;> by_cases f : x.f2 ≤ 1000 <;> simp [a, b, c, d, e, f] <;> omega

theorem isBuilder_below {T e : TypeId} {B b : Nat} {bs : List Value} {w w' : World} (h : Lib.IsBuilder T e B b bs w) (hb : Below w.heap.size w w') : Lib.IsBuilder T e B b bs w' := by
  have go : ∀ p, Lib.BuilderAt T e B b p bs w → Lib.BuilderAt T e B b p bs w' := by
    rintro p ⟨h1, v, h2, h3, h4⟩
    exact ⟨h1, v, (hb.block b (blk_lt h2)).trans h2, pw_own_below h3 hb, h4⟩
  rcases h with h | h
  · exact .inl (go _ h)
  · exact .inr (go _ h)

theorem wpAnyH_weaken {P : Program} {ops : Array Oper} {Q : Exit → Act → World → Prop} {md : Region.Mode} {S S' : World → Prop} (hs : ∀ w, S' w → S w) :
    ∀ (fuel : Nat) (listed : Array Bool) (a : Act) (w : World), wpAnyH P md ops Q S' fuel listed a w → wpAnyH P md ops Q S fuel listed a w
  | 0, _, _, _, h => h
  | fuel + 1, _, _, _, h => ⟨h.1, fun i hi => wpOp_mono (fun a' w' h' => ⟨hs _ h'.1, wpAnyH_weaken hs fuel _ a' w' h'.2⟩) (h.2 i hi)⟩
theorem getD_lt {α : Type} (l : List α) (d : α) {k : Nat} (h : k < l.length) : l.getD k d = l[k] := by
  simp [List.getD, List.getElem?_eq_getElem h]
theorem keep3 {b : Nat} {x : S54} {w w' : World} (h : w.cell? ⟨b, 0, none⟩ = some (.int .i8 x.f0) ∧ w.cell? ⟨b, 1, none⟩ = some (.int .i16 x.f1) ∧ w.cell? ⟨b, 2, none⟩ = some (.int .i16 x.f2)) (hb : Below w.heap.size w w') :
    w'.cell? ⟨b, 0, none⟩ = some (.int .i8 x.f0) ∧ w'.cell? ⟨b, 1, none⟩ = some (.int .i16 x.f1) ∧ w'.cell? ⟨b, 2, none⟩ = some (.int .i16 x.f2) :=
  ⟨(hb.cell (World.block_lt_of_cell? w _ h.1)).trans h.1, (hb.cell (World.block_lt_of_cell? w _ h.2.1)).trans h.2.1, (hb.cell (World.block_lt_of_cell? w _ h.2.2)).trans h.2.2⟩

theorem whats_is : impl_whats.f = some wl := rfl
theorem isBuilder_lt {T e : TypeId} {B b : Nat} {bs : List Value} {w : World} (h : Lib.IsBuilder T e B b bs w) : b < w.heap.size := h.elim (fun h => h.lt) (fun h => h.lt)
def allOk (l : List S54) : Bool := l.all okE
def iText (l : List S54) : ByteArray := if l = [] then ⟨#[]⟩ else if l.all okE && decide (l.length ≤ 100) then textB l else ⟨#[]⟩

theorem bytes_snoc (t s : ByteArray) : Lib.byteCells (t ++ s).data.toList = Lib.byteCells t.data.toList ++ Lib.strCells s := by
  rw [ByteArray.data_append, Array.toList_append, Lib.byteCells_append, Lib.strCells_eq]
theorem iText_long (l : List S54) (h : 100 < l.length) : iText l = ⟨#[]⟩ := by
  unfold iText
  split
  · rfl
  · rw [if_neg]
    simp
    omega
theorem iText_bad (l : List S54) {x} (h : x ∈ l) (hx : okE x = false) : iText l = ⟨#[]⟩ := by
  unfold iText
  split
  · rfl
  · rw [if_neg]
    simp
    intro h1
    have := h1 x h
    rw [hx] at this
    cases this
theorem iText_good (l : List S54) (h : ∀ x ∈ l, okE x = true) (h1 : 0 < l.length → l.length ≤ 100) : iText l = textB l := by
  unfold iText
  split
  · rename_i h0
    subst h0
    rfl
  · rename_i h0
    have hp : 0 < l.length := List.length_pos_iff.2 h0
    rw [if_pos]
    simp
    exact ⟨h, h1 hp⟩

set_option maxHeartbeats 1000000 in
set_option maxRecDepth 100000 in
theorem diaryText_calls (A0 : Option Addr) (c0 : Nat) (l0 : List S54) (w : World) (hr0 : Kd.C k54 w A0 l0.length l0) (hc0 : l0.length ≤ c0) (hn : l0.length ≤ 9223372036854775807) (ht : Tab w)
    (hwf : ∀ x ∈ l0, (-128 ≤ x.f0 ∧ x.f0 ≤ 127) ∧ (-32768 ≤ x.f1 ∧ x.f1 ≤ 32767) ∧ (-32768 ≤ x.f2 ∧ x.f2 ≤ 32767)) :
    Calls Tryd.prog 10 #[.slice A0 l0.length c0] w fun e w' => e = .returned (.string (iText l0)) ∧ Below w.heap.size w w' := by
  have HR := Aside0.mk hr0
  have HC := Aside0.mk hc0
  have HT := Aside0.mk ht
  have HW := Aside0.mk hwf
  clear hr0 hc0 ht hwf
  go_enter Tryd.func10, Tryd.ntmps10
  go_wp2
  go_loopw [9] (fun i wr => ∃ k : Nat, k ≤ l0.length ∧ i = .int .i64 k ∧ Aside0 (Lib.IsBuilder 60 5 w.heap.size w.heap.size (Lib.byteCells (textB (l0.take k)).data.toList) wr) ∧ Aside0 (Below w.heap.size w wr) ∧ Aside0 (∀ x ∈ l0.take k, okE x = true) ∧ Aside0 (0 < k → l0.length ≤ 100)) (fun i _ => l0.length - (intOf i).toNat)
  case atStart => exact ⟨0, Nat.zero_le _, rfl, ⟨Lib.fresh_isBuilder _ _ w⟩, ⟨(Below.refl _ w).alloc (Nat.le_refl _) _⟩, ⟨by simp⟩, ⟨by omega⟩⟩
  case round =>
    obtain ⟨k, hk, rfl, HI, HB, HO, HL⟩ := hrel
    by_cases hlt : k < l0.length
    · have p0 : (0 : Int) ≤ (k : Int) := by omega
      have q0 : (k : Int) < l0.length := by omega
      obtain ⟨ad, ea, hx0, hx1, hx2⟩ := at_T54 HR.out k p0 q0
      cases ea
      replace hx0 := (HB.out.cell (World.block_lt_of_cell? w _ hx0)).trans hx0
      replace hx1 := (HB.out.cell (World.block_lt_of_cell? w _ hx1)).trans hx1
      replace hx2 := (HB.out.cell (World.block_lt_of_cell? w _ hx2)).trans hx2
      simp only [Int.toNat_natCast] at hx0 hx1 hx2
      have hmem : rd_T54 l0 k ∈ l0 := by
        unfold rd_T54
        rw [Int.toNat_natCast, getD_lt _ _ hlt]
        exact List.getElem_mem hlt
      obtain ⟨x, HX⟩ : ∃ x, Aside0 (rd_T54 l0 k = x) := ⟨_, ⟨rfl⟩⟩
      rw [HX.out] at hx0 hx1 hx2 hmem
      have hxw := HW.out x hmem
      have HP := Aside0.mk (plain_is x hxw.1 hxw.2.1 hxw.2.2)
      have hxx : l0[k] = x := by
        have := HX.out
        unfold rd_T54 at this
        rwa [Int.toNat_natCast, getD_lt _ _ hlt] at this
      have HTK := Aside0.mk (show l0.take (k + 1) = l0.take k ++ [x] by rw [List.take_succ_eq_append_getElem hlt, hxx])
      have HMEM := Aside0.mk hmem
      clear hmem hxx
      have HXW := Aside0.mk hxw
      clear hxw
      by_cases hok : okE x = true
      · by_cases hlen : l0.length ≤ 100
        · have hlen' : (l0.length : Int) ≤ 100 := by omega
          have HP1 : Aside0 (impl_Entry_isPlain.f x.f0 x.f1 x.f2 = some true) := ⟨hok ▸ HP.out⟩
          have HOK := Aside0.mk hok
          clear hok HP
          go_wp2_with fail
          (with_reducible refine (impl_Entry_isPlain.calls _ _ _ true _ HP1.out).mono ?_); rintro e w1 ⟨rfl, hb1⟩
          have hbox : Below wr.heap.size wr (wr.alloc (.cells #[.int .i8 x.f0, .int .i16 x.f1, .int .i16 x.f2] 54)) := (Below.refl _ _).alloc (Nat.le_refl _) _
          have hS : w1.cell? ⟨wr.heap.size, 0, none⟩ = some (.int .i8 x.f0) ∧ w1.cell? ⟨wr.heap.size, 1, none⟩ = some (.int .i16 x.f1) ∧ w1.cell? ⟨wr.heap.size, 2, none⟩ = some (.int .i16 x.f2) := keep3 (by refine ⟨?_, ?_, ?_⟩ <;> go_simp) hb1
          have HLT := Aside0.mk (isBuilder_lt HI.out)
          have HE : w1.heap[wr.heap.size]? = some (.cells #[.int .i8 x.f0, .int .i16 x.f1, .int .i16 x.f2] 54 (0, 0)) := (hb1.block _ (by simp)).trans (by show (wr.heap.push _)[wr.heap.size]? = _; rw [Array.getElem?_push_size])
          have HE := Aside0.mk HE
          have hb1' : Below wr.heap.size wr w1 := hbox.trans (hb1.mono (by simp))
          have HI1 := Aside0.mk (isBuilder_below HI.out hb1')
          have HB1 := Aside0.mk (HB.out.trans (hb1'.mono HB.out.size))
          have hb1sz : wr.heap.size ≤ w1.drew.heap.size := hb1'.size
          clear hb1 hbox hb1'
          go_wp2_with fail
          have wf0 := HXW.out
          have wok := HOK.out
          simp only [okE, decide_eq_true_eq] at wok
          obtain ⟨y0, y1, y2, y3, y4, y5⟩ := wok
          clear wf0
          have hlw : x.f0 < (wl.length : Int) := by simp [wl]; omega
          have s0 := wl_size x.f0
          have s1 := decB_size x.f1 (by omega) (by omega)
          have s2 := decB_size x.f2 (by omega) (by omega)
          have z1 : (9223372036854775807 < (rdOf ByteArray.empty wl x.f0).size + 1) = False := eq_false (by omega)
          have z2 : (9223372036854775807 < (rdOf ByteArray.empty wl x.f0).size + 1 + (decB x.f1).size) = False := eq_false (by omega)
          have z3 : (9223372036854775807 < (rdOf ByteArray.empty wl x.f0).size + 1 + (decB x.f1).size + 1) = False := eq_false (by omega)
          have z4 : (9223372036854775807 < (rdOf ByteArray.empty wl x.f0).size + 1 + (decB x.f1).size + 1 + (decB x.f2).size) = False := eq_false (by omega)
          have z5 : (9223372036854775807 < (rdOf ByteArray.empty wl x.f0).size + 1 + (decB x.f1).size + 1 + (decB x.f2).size + 1) = False := eq_false (by omega)
          clear s0 s1 s2
          have HE : Aside0 (w1.drew.heap[wr.heap.size]? = some (.cells #[.int .i8 x.f0, .int .i16 x.f1, .int .i16 x.f2] 54 (0, 0))) := ⟨HE.out⟩
          have hS : w1.drew.cell? ⟨wr.heap.size, 0, none⟩ = some (.int .i8 x.f0) ∧ w1.drew.cell? ⟨wr.heap.size, 1, none⟩ = some (.int .i16 x.f1) ∧ w1.drew.cell? ⟨wr.heap.size, 2, none⟩ = some (.int .i16 x.f2) := hS
          have HI1 : Aside0 (Lib.IsBuilder 60 5 w.heap.size w.heap.size (Lib.byteCells (textB (l0.take k)).data.toList) w1.drew) := ⟨HI1.out⟩
          have HB1 : Aside0 (Below w.heap.size w w1.drew) := ⟨HB1.out.drew⟩
          refine wp_region_held_drew (S := (fun w' => w'.cell? ⟨wr.heap.size, 0, none⟩ = some (.int .i8 x.f0) ∧ w'.cell? ⟨wr.heap.size, 1, none⟩ = some (.int .i16 x.f1) ∧ w'.cell? ⟨wr.heap.size, 2, none⟩ = some (.int .i16 x.f2))) (by kernel_rfl) hS (fun _ => ?_)
          refine wpAnyH_take (i := 1) (v := ?v1) rfl (by kernel_rfl) (by kernel_rfl) (by kernel_rfl) (fun _ _ _ h => h) (Or.inl ⟨by rfl, ?y1⟩) hS ?r1
          case y1 => intro w' hSw; (try dsimp only at hSw); go_simp; try with_reducible rfl
          simp only [Act.put, List.setIfInBounds_toArray, List.set_cons_zero, List.set_cons_succ]
          refine wpAnyH_take (i := 2) (v := ?v2) rfl (by kernel_rfl) (by kernel_rfl) (by kernel_rfl) (fun _ _ _ h => h) (Or.inl ⟨by rfl, ?y2⟩) hS ?r2
          case y2 => intro w' hSw; (try dsimp only at hSw); go_simp; try with_reducible rfl
          simp only [Act.put, List.setIfInBounds_toArray, List.set_cons_zero, List.set_cons_succ]
          refine wpAnyH_take (i := 6) (v := ?v6) rfl (by kernel_rfl) (by kernel_rfl) (by kernel_rfl) (fun _ _ _ h => h) (Or.inl ⟨by rfl, ?y6⟩) hS ?r6
          case y6 => intro w' hSw; (try dsimp only at hSw); go_simp; try with_reducible rfl
          simp only [Act.put, List.setIfInBounds_toArray, List.set_cons_zero, List.set_cons_succ]
          refine wpAnyH_take (i := 7) (v := ?v7) rfl (by kernel_rfl) (by kernel_rfl) (by kernel_rfl) (fun _ _ _ h => h) (Or.inl ⟨by rfl, ?y7⟩) hS ?r7
          case y7 => intro w' hSw; (try dsimp only at hSw); go_simp; try with_reducible rfl
          simp only [Act.put, List.setIfInBounds_toArray, List.set_cons_zero, List.set_cons_succ]
          refine wpAnyH_take (i := 11) (v := ?v11) rfl (by kernel_rfl) (by kernel_rfl) (by kernel_rfl) (fun _ _ _ h => h) (Or.inl ⟨by rfl, ?y11⟩) hS ?r11
          case y11 => intro w' hSw; (try dsimp only at hSw); go_simp; try with_reducible rfl
          simp only [Act.put, List.setIfInBounds_toArray, List.set_cons_zero, List.set_cons_succ]
          refine wpAnyH_take (i := 12) (v := ?v12) rfl (by kernel_rfl) (by kernel_rfl) (by kernel_rfl) (fun _ _ _ h => h) (Or.inl ⟨by rfl, ?y12⟩) hS ?r12
          case y12 => intro w' hSw; (try dsimp only at hSw); go_simp; try with_reducible rfl
          simp only [Act.put, List.setIfInBounds_toArray, List.set_cons_zero, List.set_cons_succ]
          refine wpAnyH_ready (rs := [0]) (by kernel_rfl) (by simp) ?_
          refine AllReadyH.cons rfl (fun K0 hK0 => ?_) AllReadyH.nil
          go_simp
          (with_reducible refine (impl_whats.calls _ _ whats_is).mono ?_); rintro e w2 ⟨v, rfl, hR, hb2⟩
          have hS := keep3 hS hb2; have HE := Aside0.mk ((hb2.block _ (blk_lt HE.out)).trans HE.out); have HI1 := Aside0.mk (isBuilder_below HI1.out hb2); have HB1 := Aside0.mk (HB1.out.trans (hb2.mono HB1.out.size))
          obtain ⟨g, cap, rfl, hg1, hg2, gc, HG⟩ := Kd.R_form hR (by decide)
          have HG := Aside0.mk HG
          have HLE := Aside0.mk (Nat.le_trans hb1sz hg1)
          have hC := (Kd.R_reads' hR).2.2
          obtain ⟨ad2, ea2, hy0⟩ := Kd.at_string hC x.f0 y0 (by simp [wl]; omega)
          cases ea2
          rw [add_plain] at hy0
          refine hK0.out _ _ hS (fun _ => ?_)
          refine wpAnyH_weaken (S' := (fun w' => (w'.cell? ⟨wr.heap.size, 0, none⟩ = some (.int .i8 x.f0) ∧ w'.cell? ⟨wr.heap.size, 1, none⟩ = some (.int .i16 x.f1) ∧ w'.cell? ⟨wr.heap.size, 2, none⟩ = some (.int .i16 x.f2)) ∧ w'.cell? ⟨g, x.f0.toNat, none⟩ = some (.string (rdOf ByteArray.empty wl x.f0)))) (fun _ h => h.1) _ _ _ _ ?_
          have hS := And.intro hS hy0
          clear hR hC hb2 hK0
          refine wpAnyH_take (i := 3) (v := ?v3) rfl (by kernel_rfl) (by kernel_rfl) (by kernel_rfl) (fun _ _ _ h => h) (Or.inl ⟨by rfl, ?y3⟩) hS ?r3
          case y3 => intro w' hSw; (try dsimp only at hSw); go_simp; try with_reducible rfl
          simp only [Act.put, List.setIfInBounds_toArray, List.set_cons_zero, List.set_cons_succ]
          refine wpAnyH_take (i := 4) (v := ?v4) rfl (by kernel_rfl) (by kernel_rfl) (by kernel_rfl) (fun _ _ _ h => h) (Or.inl ⟨by rfl, ?y4⟩) hS ?r4
          case y4 => intro w' hSw; (try dsimp only at hSw); go_simp; try with_reducible rfl
          simp only [Act.put, List.setIfInBounds_toArray, List.set_cons_zero, List.set_cons_succ]
          refine wpAnyH_take (i := 5) (v := ?v5) rfl (by kernel_rfl) (by kernel_rfl) (by kernel_rfl) (fun _ _ _ h => h) (Or.inl ⟨by rfl, ?y5⟩) hS ?r5
          case y5 => intro w' hSw; (try dsimp only at hSw); go_simp; try with_reducible rfl
          simp only [Act.put, List.setIfInBounds_toArray, List.set_cons_zero, List.set_cons_succ]
          refine wpAnyH_ready (rs := [8]) (by kernel_rfl) (by simp) ?_
          refine AllReadyH.cons rfl (fun K8 hK8 => ?_) AllReadyH.nil
          go_simp
          (with_reducible refine (decimal16_calls x.f1 (by omega) (by omega) _ (HT.out.on HB1.out)).mono ?_); rintro e w2 ⟨rfl, hb2⟩
          have hS := And.intro (keep3 hS.1 hb2) ((hb2.cell (World.block_lt_of_cell? _ _ hS.2)).trans hS.2); have HE := Aside0.mk ((hb2.block _ (blk_lt HE.out)).trans HE.out); have HG := Aside0.mk ((hb2.block _ (blk_lt HG.out)).trans HG.out); have HI1 := Aside0.mk (isBuilder_below HI1.out hb2); have HB1 := Aside0.mk (HB1.out.trans (hb2.mono HB1.out.size))
          refine hK8.out _ _ hS (fun _ => ?_)
          clear hb2 hK8
          refine wpAnyH_take (i := 9) (v := ?v9) rfl (by kernel_rfl) (by kernel_rfl) (by kernel_rfl) (fun _ _ _ h => h) (Or.inl ⟨by rfl, ?y9⟩) hS ?r9
          case y9 => intro w' hSw; (try dsimp only at hSw); go_simp; try with_reducible rfl
          simp only [Act.put, List.setIfInBounds_toArray, List.set_cons_zero, List.set_cons_succ]
          refine wpAnyH_take (i := 10) (v := ?v10) rfl (by kernel_rfl) (by kernel_rfl) (by kernel_rfl) (fun _ _ _ h => h) (Or.inl ⟨by rfl, ?y10⟩) hS ?r10
          case y10 => intro w' hSw; (try dsimp only at hSw); go_simp; try with_reducible rfl
          simp only [Act.put, List.setIfInBounds_toArray, List.set_cons_zero, List.set_cons_succ]
          refine wpAnyH_ready (rs := [13]) (by kernel_rfl) (by simp) ?_
          refine AllReadyH.cons rfl (fun K13 hK13 => ?_) AllReadyH.nil
          go_simp
          (with_reducible refine (decimal16_calls x.f2 (by omega) (by omega) _ (HT.out.on HB1.out)).mono ?_); rintro e w2 ⟨rfl, hb2⟩
          have hS := And.intro (keep3 hS.1 hb2) ((hb2.cell (World.block_lt_of_cell? _ _ hS.2)).trans hS.2); have HE := Aside0.mk ((hb2.block _ (blk_lt HE.out)).trans HE.out); have HG := Aside0.mk ((hb2.block _ (blk_lt HG.out)).trans HG.out); have HI1 := Aside0.mk (isBuilder_below HI1.out hb2); have HB1 := Aside0.mk (HB1.out.trans (hb2.mono HB1.out.size))
          refine hK13.out _ _ hS (fun _ => ?_)
          clear hb2 hK13
          refine wpAnyH_take (i := 14) (v := ?v14) rfl (by kernel_rfl) (by kernel_rfl) (by kernel_rfl) (fun _ _ _ h => h) (Or.inl ⟨by rfl, ?y14⟩) hS ?r14
          case y14 => intro w' hSw; (try dsimp only at hSw); go_simp; try with_reducible rfl
          simp only [Act.put, List.setIfInBounds_toArray, List.set_cons_zero, List.set_cons_succ]
          refine wpAnyH_take (i := 15) (v := ?v15) rfl (by kernel_rfl) (by kernel_rfl) (by kernel_rfl) (fun _ _ _ h => h) (Or.inl ⟨by rfl, ?y15⟩) hS ?r15
          case y15 => intro w' hSw; (try dsimp only at hSw); go_simp; try with_reducible rfl
          simp only [Act.put, List.setIfInBounds_toArray, List.set_cons_zero, List.set_cons_succ]
          refine wpAnyH_ready (rs := [16]) (by kernel_rfl) (by simp) ?_
          refine AllReadyH.cons rfl (fun K16 hK16 => ?_) AllReadyH.nil
          go_simp
          rw [show (rdOf ByteArray.empty wl x.f0 ++ { data := #[32] } ++ decB x.f1 ++ { data := #[32] } ++ decB x.f2 ++ { data := #[10] } : ByteArray) = lineB x from rfl]
          (with_reducible refine (writeString_calls w.heap.size w.heap.size _ (lineB x) _ HI1.out ?_ HB1.out.size).mono ?_)
          · have h1 := text_size (l0.take k) HO.out
            have h2 := line_size x HOK.out
            rw [List.length_take, Nat.min_eq_left hk] at h1
            rw [Lib.byteCells_length, Array.length_toList]
            show (textB (l0.take k)).size + (lineB x).size ≤ 140737488355328
            omega
          rintro e w3 ⟨rfl, hI3, hb3, hk3⟩
          have hE3 := hk3 _ _ HE.out (by have := HLT.out; intro h; have := Option.some.inj h; omega) (by intro c fz h; cases h)
          have hG3 := hk3 _ _ HG.out (by have := HLT.out; have := HLE.out; intro h; have := Option.some.inj h; omega) (by intro c fz h; cases h)
          refine hK16.out _ _ ⟨⟨blk_cell hE3 0, blk_cell hE3 1, blk_cell hE3 2⟩, ?_⟩ (fun _ => ?_)
          · rw [blk_cell hG3, ← blk_cell HG.out]; exact hS.2
          refine wpAnyH_done (by kernel_rfl) ?_ _
          go_wp2
          have HTT := HTK.out
          exact ⟨⟨k + 1, hlt, by go_num, ⟨by rw [HTT, textB_snoc, bytes_snoc]; exact .inr hI3⟩, ⟨HB1.out.trans hb3⟩, ⟨by rw [HTT]; intro y hy; rcases List.mem_append.1 hy with hy | hy; exact HO.out y hy; rw [List.mem_singleton.1 hy]; exact HOK.out⟩, ⟨fun _ => hlen⟩⟩, by simp [intOf]; omega⟩
        · have hlen' : (100 : Int) < (l0.length : Int) := by omega
          have HP1 : Aside0 (impl_Entry_isPlain.f x.f0 x.f1 x.f2 = some true) := ⟨hok ▸ HP.out⟩
          clear hok HP
          go_wp2_with (first | (go_at_call 30; (with_reducible refine (impl_Entry_isPlain.calls _ _ _ true _ HP1.out).mono ?_); rintro e w1 ⟨rfl, hb1⟩))
          go_ret
          have hbox : Below wr.heap.size wr (wr.alloc (.cells #[.int .i8 x.f0, .int .i16 x.f1, .int .i16 x.f2] 54)) := (Below.refl _ _).alloc (Nat.le_refl _) _
          exact ⟨by rw [iText_long l0 (by omega)]; rfl, HB.out.trans ((hbox.trans (hb1.mono (by simp))).mono HB.out.size)⟩
      · have hok' : okE x = false := by simpa using hok
        have HP1 : Aside0 (impl_Entry_isPlain.f x.f0 x.f1 x.f2 = some false) := ⟨hok' ▸ HP.out⟩
        have HOK := Aside0.mk hok'
        clear hok hok' HP
        go_wp2_with (first | (go_at_call 30; (with_reducible refine (impl_Entry_isPlain.calls _ _ _ false _ HP1.out).mono ?_); rintro e w1 ⟨rfl, hb1⟩))
        go_ret
        have hbox : Below wr.heap.size wr (wr.alloc (.cells #[.int .i8 x.f0, .int .i16 x.f1, .int .i16 x.f2] 54)) := (Below.refl _ _).alloc (Nat.le_refl _) _
        exact ⟨by rw [iText_bad l0 HMEM.out HOK.out]; rfl, HB.out.trans ((hbox.trans (hb1.mono (by simp))).mono HB.out.size)⟩
    · obtain rfl : k = l0.length := by omega
      rw [List.take_length] at HI HO
      go_wp2_with (first | (go_at_call 34; (with_reducible refine (Tryd.Builder_String_any w.heap.size w.heap.size _ _ HI.out HB.out.size).mono ?_); rintro e w1 ⟨rfl, hb1⟩))
      go_ret
      exact ⟨by rw [iText_good l0 HO.out HL.out]; rfl, HB.out.trans hb1⟩

end Go.Proofs.YtcifgakahpnjiaaDoor
