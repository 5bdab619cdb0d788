/- What the program's FlocksText returns: the words of all flocks, or nothing where one of them is not as told or there are too many. -/
import Derived.Test.YtcifgakahpnjiaaDoorFlB
namespace Go.Proofs.YtcifgakahpnjiaaDoor
open Go.RowKit Go.Proofs.YtcifgakahpnjiaaDoorW.PrintWords Go.Proofs.YtcifgakahpnjiaaDoorW.PrintLast Go.Proofs.YtcifgakahpnjiaaDoorW.PrintMore Go.Proofs.YtcifgakahpnjiaaDoor.Tf
set_option linter.unusedSimpArgs false
set_option linter.unusedVariables false

def flParts (x : S87) (j : Nat) : List ByteArray := (List.range j).map fun q => decB (flNum x q)
theorem flParts_succ (x) (j : Nat) : flParts x (j + 1) = flParts x j ++ [decB (flNum x j)] := by simp [flParts, List.range_succ]
theorem flParts_length (x) (j : Nat) : (flParts x j).length = j := by simp [flParts]
abbrev sl : ByteArray := ⟨#[47]⟩
abbrev spc : ByteArray := ⟨#[32]⟩
def flW (x : S87) : ByteArray := joinB (flParts x 6) sl
def flText (l : List S87) : ByteArray := if l.all flOk && decide (l.length ≤ 12) then joinB (l.map flW) spc else ⟨#[]⟩
theorem fl_long (l : List S87) (h : 12 < l.length) : flText l = ⟨#[]⟩ := by
  unfold flText
  rw [if_neg]
  simp
  omega
theorem fl_bad (l : List S87) {x} (h : x ∈ l) (hx : flOk x = false) : flText l = ⟨#[]⟩ := by
  unfold flText
  rw [if_neg]
  simp
  intro h1
  have := h1 x h
  rw [hx] at this
  cases this
theorem fl_good (l : List S87) (h : ∀ x ∈ l, flOk x = true) (h1 : l.length ≤ 12) : flText l = joinB (l.map flW) spc := by
  unfold flText
  rw [if_pos]
  simp
  exact ⟨h, h1⟩
theorem fl_getD {α : Type} (l : List α) (d : α) {k : Nat} (h : k < l.length) : l.getD k d = l[k] := by
  simp [List.getD, List.getElem?_eq_getElem h]
theorem fl_cells_below {w w' : World} {b : Addr} {x} (h : flCells w b x) (hb : Below w.heap.size w w') : flCells w' b x := by
  obtain ⟨h0, h1, h2, h3, h4, h5⟩ := h
  exact ⟨(hb.cell (World.block_lt_of_cell? w _ h0)).trans h0, (hb.cell (World.block_lt_of_cell? w _ h1)).trans h1, (hb.cell (World.block_lt_of_cell? w _ h2)).trans h2, (hb.cell (World.block_lt_of_cell? w _ h3)).trans h3, (hb.cell (World.block_lt_of_cell? w _ h4)).trans h4, (hb.cell (World.block_lt_of_cell? w _ h5)).trans h5⟩

theorem infoStr : (Tryd.prog.info? 9).map (fun i => (i.zero, i.size, i.bytes)) = some (some (.string ⟨#[]⟩), 1, 16) := by kernel_rfl
theorem jb_nil (s : ByteArray) : joinB [] s = ⟨#[]⟩ := by simp [joinB, Lib.join]
theorem jb_one (x s : ByteArray) : joinB [x] s = x := by
  obtain ⟨d⟩ := x
  simp [joinB, Lib.join]
theorem ic_snoc (s : List UInt8) (l : List (List UInt8)) (x : List UInt8) (h : l ≠ []) : s.intercalate (l ++ [x]) = s.intercalate l ++ s ++ x := by
  induction l with
  | nil => exact absurd rfl h
  | cons a l ih =>
    cases l with
    | nil => simp [List.intercalate, List.intersperse]
    | cons b l =>
      have := ih (by simp)
      simp only [List.intercalate, List.cons_append, List.intersperse, List.flatten_cons] at this ⊢
      rw [this]
      simp
theorem jb_snoc (l : List ByteArray) (x s : ByteArray) (h : l ≠ []) : joinB (l ++ [x]) s = (joinB l s ++ s) ++ x := by
  apply ByteArray.ext
  simp only [joinB, Lib.join, List.map_append, List.map_cons, List.map_nil, ByteArray.data_append]
  rw [ic_snoc _ _ _ (by simpa using h)]
  apply Array.ext'
  simp
theorem jb_size (s : ByteArray) (hs : s.size = 1) (l : List ByteArray) (c : Nat) (h : ∀ x ∈ l, x.size ≤ c) : (joinB l s).size ≤ (c + 1) * l.length := by
  suffices ∀ r : List ByteArray, (∀ x ∈ r, x.size ≤ c) → (joinB r.reverse s).size ≤ (c + 1) * r.length by
    have := this l.reverse (by simpa using h)
    simpa using this
  intro r
  induction r with
  | nil => intro _; simp [jb_nil, Pz.sz0]
  | cons x r ih =>
    intro h
    have h1 := ih (fun y hy => h y (by simp [hy]))
    have h2 := h x (by simp)
    rw [List.reverse_cons, List.length_cons, Nat.mul_add]
    by_cases hr : r = []
    · subst hr
      simp only [List.reverse_nil, List.nil_append, jb_one]
      omega
    · rw [jb_snoc _ _ _ (by simpa using hr), ByteArray.size_append, ByteArray.size_append, hs]
      omega
theorem flNum_wf (x) (hx : flWf x) (j : Nat) : -9223372036854775808 ≤ flNum x j ∧ flNum x j ≤ 9223372036854775807 := by
  obtain ⟨h0, h1, h2, h3, h4, h5⟩ := hx
  unfold flNum
  split <;> omega
theorem flW_size (x) (hx : flWf x) : (flW x).size ≤ 132 := by
  have := jb_size sl rfl (flParts x 6) 21 (by
    intro y hy
    obtain ⟨q, _, rfl⟩ := List.mem_map.1 hy
    exact decB_size _ (flNum_wf x hx q).1 (flNum_wf x hx q).2)
  rw [flParts_length] at this
  exact this
theorem flW_join (x) (hx : flWf x) : strings_Join.f (flParts x 6) sl = some (flW x) := by
  have := flW_size x hx
  unfold strings_Join.f
  rw [if_pos]
  · rfl
  · rw [flParts_length]
    exact ⟨Nat.le_trans this (by omega), by omega⟩
theorem R_empty (W : World) (e base g : Nat) (hb : base ≤ g) (h : W.heap[g]? = some (.cells #[] e (0, 0))) : Kd.R Kd.string e W base (fun _ => True) (.slice (some ⟨g, 0, none⟩) 0 0) [] :=
  ⟨fun _ _ => trivial, [], ⟨by simp, .inr ⟨g, 0, #[], rfl, hb, h, Nat.le_refl _, by simp [maxLen], by simp, by simp⟩⟩, Reps.none _ _⟩
theorem R_fresh (W : World) (e base : Nat) (hb : base ≤ W.heap.size) : Kd.R Kd.string e (W.alloc (.cells #[] e)) base (fun _ => True) (.slice (some ⟨W.heap.size, 0, none⟩) 0 0) [] := by
  refine ⟨fun _ _ => trivial, [], ?_, Reps.none _ _⟩
  have h2 := World.ownsRow_lit (base := base) (e := e) (size := Kd.string.sz) W #[] 0 hb (by simp [maxLen]) (by simp)
  simpa using h2
theorem R_open' {α : Type} {d : Kd α} {e base : Nat} {ok : Nat → Prop} {w : World} {v : Value} {xs : List α} (h : d.R e w base ok v xs) : ∃ A c, v = .slice A xs.length c ∧ xs.length ≤ c ∧ d.C w A xs.length xs := by
  obtain ⟨inner, ho⟩ := Kd.R_own h
  obtain ⟨A, c, rfl⟩ := own_slice ho
  obtain ⟨h1, h2, h3⟩ := Kd.R_reads' h
  exact ⟨A, c, rfl, h2, h3⟩

set_option maxHeartbeats 4000000 in
set_option maxRecDepth 100000 in
theorem flocksText_calls (A0 : Option Addr) (c0 : Nat) (l0 : List S87) (w : World) (ht : Tab w) (hr0 : Kd.C k87 w A0 l0.length l0) (hc0 : l0.length ≤ c0) (hn : l0.length ≤ 9223372036854775807)
    (hwf : ∀ x ∈ l0, flWf x) :
    Calls Tryd.prog 25 #[.slice A0 l0.length c0] w fun e w' => e = .returned (.string (flText l0)) ∧ Below w.heap.size w w' := by
  have HR := Aside0.mk hr0
  have HC := Aside0.mk hc0
  have HT := Aside0.mk ht
  have HW := Aside0.mk hwf
  clear hr0 hc0 ht hwf
  go_enter Tryd.func25, Tryd.ntmps25
  go_wp2_with fail
  go_loopw [3, 13] (fun v i wr => ∃ k : Nat, k ≤ l0.length ∧ i = .int .i64 k ∧ Aside0 (Kd.R Kd.string 9 wr w.heap.size (fun _ => True) v ((l0.take k).map flW)) ∧ Aside0 (Below w.heap.size w wr) ∧ Aside0 (∀ x ∈ l0.take k, flOk x = true) ∧ Aside0 (0 < k → l0.length ≤ 12)) (fun _ i _ => l0.length - (intOf i).toNat)
  case atStart => exact ⟨0, Nat.zero_le _, rfl, ⟨R_fresh w _ _ (Nat.le_refl _)⟩, ⟨(Below.refl _ w).alloc (Nat.le_refl _) _⟩, ⟨by simp⟩, ⟨by omega⟩⟩
  case round =>
    obtain ⟨k, hk, rfl, HO, HB, HOK, HL⟩ := hrel
    by_cases hlt : k < l0.length
    · have p0 : (0 : Int) ≤ (k : Int) := by omega
      have q0 : (k : Int) < l0.length := by omega
      obtain ⟨ad, ea, hx0, hx1, hx2, hx3, hx4, hx5⟩ := at_T87 HR.out k p0 q0
      cases ea
      replace hx0 := (HB.out.cell (World.block_lt_of_cell? w _ hx0)).trans hx0
      replace hx1 := (HB.out.cell (World.block_lt_of_cell? w _ hx1)).trans hx1
      replace hx2 := (HB.out.cell (World.block_lt_of_cell? w _ hx2)).trans hx2
      replace hx3 := (HB.out.cell (World.block_lt_of_cell? w _ hx3)).trans hx3
      replace hx4 := (HB.out.cell (World.block_lt_of_cell? w _ hx4)).trans hx4
      replace hx5 := (HB.out.cell (World.block_lt_of_cell? w _ hx5)).trans hx5
      simp only [Int.toNat_natCast] at hx0 hx1 hx2 hx3 hx4 hx5
      have hmem : rd_T87 l0 k ∈ l0 := by
        unfold rd_T87
        rw [Int.toNat_natCast, fl_getD _ _ hlt]
        exact List.getElem_mem hlt
      obtain ⟨x, HX⟩ : ∃ x, Aside0 (rd_T87 l0 k = x) := ⟨_, ⟨rfl⟩⟩
      rw [HX.out] at hx0 hx1 hx2 hx3 hx4 hx5 hmem
      have hxx : l0[k] = x := by
        have := HX.out
        unfold rd_T87 at this
        rwa [Int.toNat_natCast, fl_getD _ _ hlt] at this
      have HTK := Aside0.mk (show (l0.take (k + 1)).map flW = (l0.take k).map flW ++ [flW x] by rw [List.take_succ_eq_append_getElem hlt, hxx, List.map_append]; rfl)
      have HTK2 := Aside0.mk (show l0.take (k + 1) = l0.take k ++ [x] by rw [List.take_succ_eq_append_getElem hlt, hxx])
      have HXW := Aside0.mk (HW.out x hmem)
      have HMEM := Aside0.mk hmem
      clear hmem hxx
      have hS0 : flCells (wr.alloc (.cells #[.int .i16 x.f0, .int .i16 x.f1, .int .i16 x.f2, .int .i16 x.f3, .int .i16 x.f4, .int .i8 x.f5] 87)) ⟨wr.heap.size, 0, none⟩ x := by
        refine ⟨?_, ?_, ?_, ?_, ?_, ?_⟩ <;> go_simp
      have HS := Aside0.mk hS0
      clear hS0
      have hbox : Below wr.heap.size wr (wr.alloc (.cells #[.int .i16 x.f0, .int .i16 x.f1, .int .i16 x.f2, .int .i16 x.f3, .int .i16 x.f4, .int .i8 x.f5] 87)) := (Below.refl _ _).alloc (Nat.le_refl _) _
      have HBX := Aside0.mk hbox
      clear hbox
      by_cases hok : flOk x = true
      · by_cases hlen : l0.length ≤ 12
        · have hlen' : (l0.length : Int) ≤ 12 := by omega
          go_wp2_with fail
          (with_reducible refine (flPlain_calls _ x HXW.out _ HS.out).mono ?_); rintro e w1 ⟨rfl, hb1⟩
          rw [hok]
          have HS1 := Aside0.mk (fl_cells_below HS.out hb1)
          have HB1 := Aside0.mk (HB.out.trans ((HBX.out.trans (hb1.mono (by simp))).mono HB.out.size))
          have HO1 := Aside0.mk (Kd.R_below (Kd.R_below HO.out HBX.out) hb1)
          clear hb1
          clear HO HB HS HBX
          have HOKX := Aside0.mk hok
          clear hok
          go_wp2_with fail
          have hb2' : Below w1.heap.size w1 ((w1.alloc (.cells #[] 9)).alloc (.cells #[.int .i64 0, .int .i64 0, .int .i64 0, .int .i64 0, .int .i64 0, .int .i64 0] 90)) := ((Below.refl _ _).alloc (Nat.le_refl _) _).alloc (by simp only [World.size_alloc]; omega) _
          (with_reducible refine (numbersOf_calls _ x HXW.out _ (fl_cells_below HS1.out hb2')).mono ?_); rintro e w2 ⟨rfl, hb2⟩
          have hM : w2.heap[w1.heap.size + 1]? = some (.cells #[.int .i64 0, .int .i64 0, .int .i64 0, .int .i64 0, .int .i64 0, .int .i64 0] 90 (0, 0)) := (hb2.block _ (by simp only [World.size_alloc]; omega)).trans (heap_alloc2_new w1 _ _)
          have hP : w2.heap[w1.heap.size]? = some (.cells #[] 9 (0, 0)) := (hb2.block _ (by simp only [World.size_alloc]; omega)).trans (heap_alloc2_old w1 _ _)
          have hB2 : Below w1.heap.size w1 w2 := hb2'.trans (hb2.mono (by simp only [World.size_alloc]; omega))
          clear hb2 hb2'
          have hz0 := blk_cell hM 0
          have hz1 := blk_cell hM 1
          have hz2 := blk_cell hM 2
          have hz3 := blk_cell hM 3
          have hz4 := blk_cell hM 4
          have hz5 := blk_cell hM 5
          have hf0 := blk_frozen hM 0
          have hf1 := blk_frozen hM 1
          have hf2 := blk_frozen hM 2
          have hf3 := blk_frozen hM 3
          have hf4 := blk_frozen hM 4
          have hf5 := blk_frozen hM 5
          go_wp2_with fail
          go_loopw [6, 31] (fun v i wq => ∃ j : Nat, j ≤ 6 ∧ i = .int .i64 j ∧ Aside0 (Kd.R Kd.string 9 wq w1.heap.size (fun _ => True) v (flParts x j)) ∧ Aside0 (Below w1.heap.size w1 wq)) (fun _ i _ => 6 - (intOf i).toNat)
          case atStart =>
            refine ⟨0, Nat.zero_le _, rfl, ⟨R_empty _ _ _ _ (Nat.le_refl _) ?_⟩, ⟨?_⟩⟩
            · rw [Below.heap_setCell _ _ _ _ (by simp), Below.heap_setCell _ _ _ _ (by simp), Below.heap_setCell _ _ _ _ (by simp), Below.heap_setCell _ _ _ _ (by simp), Below.heap_setCell _ _ _ _ (by simp), Below.heap_setCell _ _ _ _ (by simp)]
              exact hP
            · repeat (first | exact hB2 | (refine below_set ?_ (by simp)))
          case round =>
            obtain ⟨j, hj, rfl, HP, HB2⟩ := hrel
            by_cases hjt : j < 6
            · have p1 : (0 : Int) ≤ (j : Int) := by omega
              have q1 : (j : Int) < 6 := by omega
              have hidx : ∀ w' : World, Sem.run Tryd.prog (Instr.index 90 (Value.agg #[Value.int .i64 x.f0, .int .i64 x.f1, .int .i64 x.f2, .int .i64 x.f3, .int .i64 x.f4, .int .i64 x.f5]) (.int .i64 j)) w' = .ok (.int .i64 (flNum x j)) w' := idx_flock x j hjt
              have hb : -9223372036854775808 ≤ flNum x j ∧ flNum x j ≤ 9223372036854775807 := by
                have := HXW.out
                unfold flNum
                split <;> omega
              have HN := Aside0.mk hb
              clear hb
              go_wp2_with fail
              (with_reducible refine (impl_decimal_int64.calls (flNum x j) (decB (flNum x j)) _ ?_ ?_).mono ?_)
              · exact (HT.out.on HB1.out).on HB2.out
              · unfold impl_decimal_int64.f; rw [if_pos HN.out]
              rintro e w3 ⟨rfl, hb3⟩
              have HP3 := Aside0.mk (Kd.R_below HP.out hb3)
              have HB3 := Aside0.mk (HB2.out.trans (hb3.mono HB2.out.size))
              clear hb3
              go_wp2_with ((with_reducible refine gate_builtin (b := .append) (xs := #[.tmp 34, .tmp 37]) rfl ?_); at_builtin; refine Kd.R_append Kd.string (w0 := w1) w1.heap.size rfl (.tmp 34) (.tmp 37) 66 9 (.string ⟨#[]⟩) 16 rfl Tryd.underlying66 infoStr rfl (by decide) (by omega) _ (flParts x j) (decB (flNum x j)) [.string (decB (flNum x j))] (fun _ => True) (fun _ => False) rfl rfl ?aP (fun _ hk => hk.elim) ?aF ?aO ?aB ?aS ?aL ?_; (case aP => exact rfl); (case aF => exact (fun _ _ => trivial)); (case aO => exact HP3.out); (case aB => exact HB3.out); (case aS => exact HB3.out.size); (case aL => rw [flParts_length]; omega); intro v1 w4 ho hb4 hg hat)
              go_roundw
              case rel => exact ⟨j + 1, hjt, by go_num, ⟨by rw [flParts_succ]; exact ho⟩, ⟨hb4⟩⟩
              case measure => simp [intOf]; omega
            · have q1 : ¬ (j : Int) < 6 := by omega
              obtain rfl : j = 6 := by omega
              obtain ⟨A1, c1, rfl, hc1, hC1⟩ := R_open' HP.out
              have HC1 := Aside0.mk hC1
              have HD1 := Aside0.mk hc1
              clear hC1 hc1
              go_wp2_with fail
              (with_reducible refine (strings_Join.calls _ _ (flParts x 6) sl (flW x) _ HC1.out HD1.out (flW_join x HXW.out)).mono ?_)
              rintro e w5 ⟨rfl, hb5⟩
              have HO5 := Aside0.mk (Kd.R_below (Kd.R_below HO1.out HB2.out) hb5)
              have HB5 := Aside0.mk (HB1.out.trans ((HB2.out.trans (hb5.mono HB2.out.size)).mono HB1.out.size))
              clear hb5 HP HC1 HO1
              go_wp2_with ((with_reducible refine gate_builtin (b := .append) (xs := #[.tmp 40, .tmp 43]) rfl ?_); at_builtin; refine Kd.R_append Kd.string (w0 := w) w.heap.size rfl (.tmp 40) (.tmp 43) 66 9 (.string ⟨#[]⟩) 16 rfl Tryd.underlying66 infoStr rfl (by decide) (by omega) _ ((l0.take k).map flW) (flW x) [.string (flW x)] (fun _ => True) (fun _ => False) rfl rfl ?aP (fun _ hk => hk.elim) ?aF ?aO ?aB ?aS ?aL ?_; (case aP => exact rfl); (case aF => exact (fun _ _ => trivial)); (case aO => exact HO5.out); (case aB => exact HB5.out); (case aS => exact HB5.out.size); (case aL => rw [List.length_map, List.length_take]; omega); intro v1 w6 ho hb6 hg hat)
              go_roundw
              case rel => exact ⟨k + 1, hlt, by go_num, ⟨by rw [HTK.out]; exact ho⟩, ⟨hb6⟩, ⟨by rw [HTK2.out]; intro y hy; rcases List.mem_append.1 hy with hy | hy; exact HOK.out y hy; rw [List.mem_singleton.1 hy]; exact HOKX.out⟩, ⟨fun _ => hlen⟩⟩
              case measure => simp [intOf]; omega
        · have hlen' : (12 : Int) < (l0.length : Int) := by omega
          go_wp2_with fail
          (with_reducible refine (flPlain_calls _ x HXW.out _ HS.out).mono ?_); rintro e w1 ⟨rfl, hb1⟩
          rw [hok]
          have HB1 := Aside0.mk (HB.out.trans ((HBX.out.trans (hb1.mono (by simp))).mono HB.out.size))
          clear hb1
          clear HO HB HS HBX
          go_wp2_with fail
          go_ret
          exact ⟨by rw [fl_long l0 (by omega)]; rfl, HB1.out⟩
      · have hok' : flOk x = false := by simpa using hok
        go_wp2_with fail
        (with_reducible refine (flPlain_calls _ x HXW.out _ HS.out).mono ?_); rintro e w1 ⟨rfl, hb1⟩
        rw [hok']
        have HB1 := Aside0.mk (HB.out.trans ((HBX.out.trans (hb1.mono (by simp))).mono HB.out.size))
        clear hb1
        clear HO HB HS HBX
        go_wp2_with fail
        go_ret
        exact ⟨by rw [fl_bad l0 HMEM.out hok']; rfl, HB1.out⟩
    · have q0 : ¬ (k : Int) < l0.length := by omega
      obtain rfl : k = l0.length := by omega
      rw [List.take_length] at HO HOK
      obtain ⟨A1, c1, rfl, hc1, hC1⟩ := R_open' HO.out
      have HC1 := Aside0.mk hC1
      have HD1 := Aside0.mk hc1
      clear hC1 hc1
      have hlen : l0.length ≤ 12 := by
        by_cases h : 0 < l0.length
        · exact HL.out h
        · omega
      have hJ := strings_Join.calls A1 c1 (l0.map flW) spc (joinB (l0.map flW) spc) wr HC1.out HD1.out (by
        have := jb_size spc rfl (l0.map flW) 132 (by
          intro y hy
          obtain ⟨z, hz, rfl⟩ := List.mem_map.1 hy
          exact flW_size z (HW.out z hz))
        rw [List.length_map] at this
        unfold strings_Join.f
        rw [if_pos]
        rw [List.length_map]
        omega)
      rw [List.length_map] at hJ
      have HJ := Aside0.mk hJ
      clear hJ
      go_wp2_with fail
      (with_reducible refine HJ.out.mono ?_)
      rintro e w1 ⟨rfl, hb1⟩
      go_wp2_with fail
      go_ret
      exact ⟨by rw [fl_good l0 HOK.out hlen]; rfl, HB.out.trans (hb1.mono HB.out.size)⟩
end Go.Proofs.YtcifgakahpnjiaaDoor
