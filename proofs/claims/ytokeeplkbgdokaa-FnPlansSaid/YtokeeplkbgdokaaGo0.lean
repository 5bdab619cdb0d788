/- Functions of the program as Lean functions, each with a proof that a call of it comes to just that. Written by this session's program wip/tools/myprint.py. -/
import Derived.Laws.BitsLemmas
import Derived.Test.YtokeeplkbgdokaaProg
import Derived.Below
import Derived.Deep.Draws
import Derived.Deep.AppendLies
import Derived.Maps.AppendAt
import Derived.OwnWalk
import Derived.Laws.BytesArg
import Derived.Laws.MakeOwn
import Derived.Laws.OwnMore
import Derived.Deep.OwnRows
import Derived.Tactics
import Derived.Lib.ConvBytes
import Derived.Laws.Slices
import Derived.WalkKit
import Derived.KernelRfl
import Derived.RowKit3
import Derived.Deep.LoopGhost
import Derived.Deep.QuietTactic
import Derived.BigQuiet
import Derived.WideLaws
import Derived.Deep.DeepCutAuto
import Derived.Deep.CutBlock
import Derived.Deep.RegionHeld3
import Derived.Laws.Rows
import Derived.Lib.AppendStr
import Derived.ArgAppend
import Derived.Laws.IdiomCopy
import Derived.OrdersHeld
import Derived.RowKit
import Derived.Test.YtokeeplkbgdokaaWWords
import Derived.Test.YtokeeplkbgdokaaWLast
import Derived.Test.YtokeeplkbgdokaaWTab
import Derived.Test.YtokeeplkbgdokaaWQPut
import Derived.Test.YtokeeplkbgdokaaWApart
import Derived.Test.YtokeeplkbgdokaaWArr
import Derived.Test.YtokeeplkbgdokaaWZeros
import Derived.Test.YtokeeplkbgdokaaWFoot
import Derived.Test.YtokeeplkbgdokaaWKept
import Derived.Test.YtokeeplkbgdokaaWShare
import Derived.Test.YtokeeplkbgdokaaWN
import Derived.Test.YtokeeplkbgdokaaWRepsOne
import Derived.Test.YtokeeplkbgdokaaWGuard
import Derived.Test.YtokeeplkbgdokaaWNEv
import Derived.Test.YtokeeplkbgdokaaWMore
import Derived.Ground.SlgnProg
import Derived.Shelf.SlicesG.Turned
import Derived.Shelf.SlicesG.Clone
import Derived.Lib.QuietBelow
import Derived.Deep.WholeRow
import Derived.Deep.MidRow
import Derived.Great.BuildSlice
import Derived.IntWalk
import Derived.Deep.DrawnRows
/- Bits of whole numbers: sets as numbers. Plain lemmas. -/
namespace Go.Proofs.Ytokeeplkbgdokaa
open Go
set_option linter.unusedVariables false

/-- What is in a, but not in b. -/
def ndiff (a b : Nat) : Nat := a ^^^ (a &&& b)
theorem ndiff_testBit (a b i : Nat) : (ndiff a b).testBit i = (a.testBit i && !b.testBit i) := by
  unfold ndiff
  rw [Nat.testBit_xor, Nat.testBit_and]
  cases a.testBit i <;> cases b.testBit i <;> rfl
theorem ndiff_le (a b : Nat) : ndiff a b ≤ a := by
  apply Nat.le_of_testBit
  intro i h
  rw [ndiff_testBit] at h
  cases ha : a.testBit i
  · rw [ha] at h; cases h
  · rfl
theorem ndiff_zero (a b : Nat) : ndiff a b = 0 ↔ a &&& b = a := by
  unfold ndiff
  constructor
  · intro h
    apply Nat.eq_of_testBit_eq
    intro i
    have := congrArg (·.testBit i) h
    simp only [Nat.testBit_xor, Nat.testBit_and, Nat.zero_testBit] at this ⊢
    revert this
    cases a.testBit i <;> cases b.testBit i <;> simp
  · intro h
    rw [h, Nat.xor_self]
theorem bits_andNot (a b : Nat) (ha : a < 2 ^ 63) (hb : b < 2 ^ 63) : bits .andNot .i64 (a : Int) (b : Int) = ((ndiff a b : Nat) : Int) := by
  have e : (BitVec.ofNat 64 a &&& ~~~ BitVec.ofNat 64 b).toNat = ndiff a b := by
    apply Nat.eq_of_testBit_eq
    intro i
    rw [ndiff_testBit, BitVec.testBit_toNat, BitVec.getLsbD_and, BitVec.getLsbD_not, BitVec.getLsbD_ofNat, BitVec.getLsbD_ofNat]
    by_cases hi : i < 64
    · simp [hi]
    · have : a.testBit i = false := Nat.testBit_lt_two_pow (Nat.lt_of_lt_of_le ha (Nat.pow_le_pow_right (by decide) (by omega)))
      simp [this]
  have hl := ndiff_le a b
  simp only [bits, BitVec.ofInt_natCast]
  show IntKind.i64.wrap _ = _
  rw [show IntKind.i64.bits = 64 from rfl, e, IntKind.wrap_i64]
  omega
theorem wraps_i64 (n : Int) (h₀ : 0 ≤ n) (h₁ : n < 2 ^ 63) : IntKind.i64.wrap n = n := by rw [IntKind.wrap_i64]; omega
theorem bits_andN (a b : Nat) (ha : a < 2 ^ 63) (hb : b < 2 ^ 63) : bits .and .i64 (a : Int) (b : Int) = ((a &&& b : Nat) : Int) := (bits_nat .i64 63 (by decide) wraps_i64 a b ha hb).1
theorem bits_orN (a b : Nat) (ha : a < 2 ^ 63) (hb : b < 2 ^ 63) : bits .or .i64 (a : Int) (b : Int) = ((a ||| b : Nat) : Int) := (bits_nat .i64 63 (by decide) wraps_i64 a b ha hb).2
/-- Bit i of a number, as the program asks it. -/
theorem bit_ask (a i : Nat) (ha : a < 2 ^ 63) : bits .and .i64 ((a : Int) / 2 ^ i) 1 = if a.testBit i then 1 else 0 := by
  have e : ((a : Int) / 2 ^ i) = ((a / 2 ^ i : Nat) : Int) := by rw [Int.natCast_ediv]; norm_cast
  have h := bits_andN (a / 2 ^ i) 1 (Nat.lt_of_le_of_lt (Nat.div_le_self _ _) ha) (by decide)
  rw [e]
  refine h.trans ?_
  rw [Nat.and_one_is_mod]
  have ht : a.testBit i = decide ((a / 2 ^ i) % 2 = 1) := by rw [Nat.testBit_eq_decide_div_mod_eq]
  rw [ht]
  rcases Nat.mod_two_eq_zero_or_one (a / 2 ^ i) with h0 | h0 <;> simp [h0]
/-- How many bits are set, of the first n. -/
def nbits (a : Nat) : Nat → Nat
  | 0 => 0
  | n + 1 => nbits a n + if a.testBit n then 1 else 0
end Go.Proofs.Ytokeeplkbgdokaa

/- The sizes of short literal texts, and of texts put together: plain lemmas for the walks. -/
namespace Go.Proofs.Ytokeeplkbgdokaa.Pz
theorem sz0 : (⟨#[]⟩ : ByteArray).size = 0 := rfl
theorem sz1 (a : UInt8) : (⟨#[a]⟩ : ByteArray).size = 1 := rfl
theorem sz2 (a b : UInt8) : (⟨#[a, b]⟩ : ByteArray).size = 2 := rfl
theorem sz3 (a b c : UInt8) : (⟨#[a, b, c]⟩ : ByteArray).size = 3 := rfl
theorem sz4 (a b c d : UInt8) : (⟨#[a, b, c, d]⟩ : ByteArray).size = 4 := rfl
end Go.Proofs.Ytokeeplkbgdokaa.Pz

/- Functions of the program as Lean functions, each with a proof that a call of it comes to just that. Written by this session's program wip/tools/myprint.py. -/
namespace Go.Proofs.Ytokeeplkbgdokaa.Pq
open Go.RowKit Go.Proofs.YtokeeplkbgdokaaW.PrintWords Go.Proofs.YtokeeplkbgdokaaW.PrintLast Go.Proofs.YtokeeplkbgdokaaW.PrintMore
attribute [local go_sem] max2_int min2_int max_two min_two max_three min_three max_four min_four   -- for this text's walks alone
set_option linter.unusedVariables false
set_option linter.unusedSimpArgs false



def errW : Option Int → Value
 | none => .nilIface
 | some c => .iface 0 (.int .i64 c)
theorem errW_none : errW none = .nilIface := rfl
theorem errW_some (c : Int) : errW (some c) = .iface 0 (.int .i64 c) := rfl

theorem info2 : (Try.prog.info? 2).map (fun i => (i.zero, i.size, i.bytes)) = some (some (.int .i64 0), 1, 8) := by kernel_rfl
theorem info40 : (Try.prog.info? 40).map (fun i => (i.zero, i.size, i.bytes)) = some (some (.agg #[(.int .i16 0), (.int .i16 0), (.int .i16 0), (.int .i16 0)]), 4, 8) := by kernel_rfl
-- the values' own types
/-! #### struct type 40 -/
structure S40 where
 f0 : Int
 f1 : Int
 f2 : Int
 f3 : Int
def z40 : S40 := ⟨(0 : Int), (0 : Int), (0 : Int), (0 : Int)⟩
def k40 : Kd S40 := Kd.iso (Kd.pair (Kd.int .i16) (Kd.pair (Kd.int .i16) (Kd.pair (Kd.int .i16) (Kd.int .i16)))) (fun x : S40 => (x.f0, x.f1, x.f2, x.f3))
theorem k40_open {w : World} {x : S40} {cs : List Value} (h : k40.K w x cs) : cs = [.int .i16 x.f0, .int .i16 x.f1, .int .i16 x.f2, .int .i16 x.f3] := by
 obtain ⟨_, _, rfl, rfl, ⟨_, _, rfl, rfl, ⟨_, _, rfl, rfl, rfl⟩⟩⟩ := h
 exact rfl
theorem k40_openM {w : World} {base : Nat} {ok : Nat → Prop} {x : S40} {cs : List Value} (h : k40.M w base ok x cs) : cs = [.int .i16 x.f0, .int .i16 x.f1, .int .i16 x.f2, .int .i16 x.f3] := by
 obtain ⟨_, _, rfl, rfl, ⟨_, _, rfl, rfl, ⟨_, _, rfl, rfl, rfl⟩⟩⟩ := h
 exact rfl
theorem k40_mk (w : World) (x : S40)  : k40.K w x [.int .i16 x.f0, .int .i16 x.f1, .int .i16 x.f2, .int .i16 x.f3] := ⟨[.int .i16 x.f0], [.int .i16 x.f1, .int .i16 x.f2, .int .i16 x.f3], rfl, rfl, ⟨[.int .i16 x.f1], [.int .i16 x.f2, .int .i16 x.f3], rfl, rfl, ⟨[.int .i16 x.f2], [.int .i16 x.f3], rfl, rfl, rfl⟩⟩⟩
theorem k40_mkM (w : World) (base : Nat) (ok : Nat → Prop) (x : S40)  : k40.M w base ok x [.int .i16 x.f0, .int .i16 x.f1, .int .i16 x.f2, .int .i16 x.f3] := ⟨[.int .i16 x.f0], [.int .i16 x.f1, .int .i16 x.f2, .int .i16 x.f3], rfl, rfl, ⟨[.int .i16 x.f1], [.int .i16 x.f2, .int .i16 x.f3], rfl, rfl, ⟨[.int .i16 x.f2], [.int .i16 x.f3], rfl, rfl, rfl⟩⟩⟩
def rd_T40 (xs : List S40) (i : Int) : S40 := xs.getD i.toNat z40
theorem at_T40 {w : World} {A : Option Addr} {n : Nat} {xs : List S40} (h : Kd.C k40 w A n xs) (i : Int) (h0 : 0 ≤ i) (h1 : i < n) : ∃ ad , A = some ad ∧ w.cell? (ad.add (i.toNat * 4)) = some (.int .i16 (rd_T40 xs i).f0) ∧ w.cell? ⟨(ad.add (i.toNat * 4)).block, (ad.add (i.toNat * 4)).off + 1, none⟩ = some (.int .i16 (rd_T40 xs i).f1) ∧ w.cell? ⟨(ad.add (i.toNat * 4)).block, (ad.add (i.toNat * 4)).off + 2, none⟩ = some (.int .i16 (rd_T40 xs i).f2) ∧ w.cell? ⟨(ad.add (i.toNat * 4)).block, (ad.add (i.toNat * 4)).off + 3, none⟩ = some (.int .i16 (rd_T40 xs i).f3) := by
 obtain ⟨ad, c, e, _, hK, hc0⟩ := Kd.C_get h z40 i h0 h1
 have hc : ∀ j u, c[j]? = some u → w.cell? (ad.add (i.toNat * 4 + j)) = some u := hc0
 obtain rfl := k40_open hK
 exact ⟨ad, e, hc 0 _ rfl, by rw [← add_field _ _ 1 (by omega)]; exact hc 1 _ rfl, by rw [← add_field _ _ 2 (by omega)]; exact hc 2 _ rfl, by rw [← add_field _ _ 3 (by omega)]; exact hc 3 _ rfl⟩

end Go.Proofs.Ytokeeplkbgdokaa.Pq

/-
  DERIVED: THE SHELF's CONTRACTS AT THIS DUMP, IN PLAIN WORDS (tools/lay-plain.mjs out of 'TryShelf.lean', which tools/lay-shelf.mjs wrote): THE SAME DECLARATIONS UNDER THE SAME NAMES: 'import', 'namespace', 'open', 'def', 'theorem' AND NOTHING ELSE: no command of the shelf's: FOR A HAND-IN. Each laying: the table of numbers ('.._ren') and one theorem, a field a fact of the dump's own or the kernel's comparison; each contract: ONE APPLICATION.
-/
namespace Go.Proofs
open Go.Shelf
def Try.laysSlN37_f39_ren : Go.Shelf.Ren := ⟨fun | 37 => 39 | n => n, fun | 22 => 27 | 23 => 2 | 3 => 3 | 4 => 4 | 9 => 9 | 20 => 20 | 0 => 0 | n => n, fun | n => n⟩
theorem Try.laysSlN37_f39 : Go.Proofs.SlLaysN.n37 Try.prog Try.laysSlN37_f39_ren := {
  mixed := by kernel_rfl
  f37 := ⟨Try.f39.name, by decide, Try.func39.trans (congrArg some (by kernel_rfl))⟩
  t0 := Try.underlying0
  a0 := Try.isAgg0
  z0 := Try.sizeOf0
  v0 := Try.zeroValue0
  t3 := Try.underlying3
  a3 := Try.isAgg3
  z3 := Try.sizeOf3
  v3 := Try.zeroValue3
  t4 := Try.underlying4
  a4 := Try.isAgg4
  z4 := Try.sizeOf4
  v4 := Try.zeroValue4
  t9 := Try.underlying9
  a9 := Try.isAgg9
  z9 := Try.sizeOf9
  v9 := Try.zeroValue9
  t20 := Try.underlying20
  a20 := Try.isAgg20
  z20 := Try.sizeOf20
  v20 := Try.zeroValue20
  t22 := Try.underlying27
  a22 := Try.isAgg27
  z22 := Try.sizeOf27
  v22 := Try.zeroValue27
  t23 := Try.underlying2
  a23 := Try.isAgg2
  z23 := Try.sizeOf2
  v23 := Try.zeroValue2 }
open Go.Lib in
/-- slices.Max at []int: "Max returns the maximal value in x. It panics if x is empty.": OF A SLICE THAT IS NOT EMPTY IT RETURNS 'Lib.maxOf (the elements)'; the world is as it was. (Of an empty one it panics: no contract here.) (LAID AT THE INSTANCE 'slices.Max[[]int64,int64]': no walk: one application.) -/
theorem Try.slices_Max_int (b off n c : Nat) (zs : List Int) (w : World) (hn : 0 < n) (hz : n ≤ zs.length) (hbig : n ≤ 9223372036854775807) (hc : ∀ j, j < zs.length → w.cell? ⟨b, off + j, none⟩ = some (.int .i64 (zs.getD j 0))) :
    Calls Try.prog 39 #[.slice (some ⟨b, off, none⟩) n c] w fun e w' => e = .returned (.int .i64 (Lib.maxOf (zs.take n))) ∧ w' = w := AnyG.slices_Max_int Try.laysSlN37_f39 b off n c zs w hn hz hbig hc
def Try.laysSlN41_f48_ren : Go.Shelf.Ren := ⟨fun | 41 => 48 | n => n, fun | 22 => 27 | 23 => 2 | 4 => 4 | n => n, fun | n => n⟩
theorem Try.laysSlN41_f48 : Go.Proofs.SlLaysN.n41 Try.prog Try.laysSlN41_f48_ren := {
  mixed := by kernel_rfl
  f41 := ⟨Try.f48.name, by decide, Try.func48.trans (congrArg some (by kernel_rfl))⟩
  t4 := Try.underlying4
  a4 := Try.isAgg4
  z4 := Try.sizeOf4
  v4 := Try.zeroValue4
  t22 := Try.underlying27
  a22 := Try.isAgg27
  z22 := Try.sizeOf27
  v22 := Try.zeroValue27
  t23 := Try.underlying2
  a23 := Try.isAgg2
  z23 := Try.sizeOf2
  v23 := Try.zeroValue2
  i23 := by kernel_rfl }
open Go.RowKit Go.Lib in
/-- slices.Clone at []int: "Clone returns a copy of the slice. The elements are copied using assignment, so this is a shallow clone. The result may have additional unused capacity. The result preserves the nilness of s.": OF A SLICE THAT IS NOT nil IT RETURNS A SLICE THAT IS NOT nil, OF THE SAME ELEMENTS, IN MEMORY OF THE CALL's OWN: in the how-to's words (6f): 'w'.ownsRow B e 1 v' n cells': v' begins at the head of a row among the blocks from B on (B: the heap's size at the call), not frozen, whose first cells are the elements · 'Below B w w'': below B all is as it was. The capacity is whatever the run-time gives. 'zs': what the cells behind the slice's address hold; 'zs.take n': its elements. (LAID AT THE INSTANCE 'slices.Clone[[]int64,int64]': no walk: one application.) -/
theorem Try.slices_Clone_int (b off n c : Nat) (zs : List Int) (w : World) (hz : n ≤ zs.length) (hbig : n * 8 ≤ 140737488355328) (hc : ∀ j, j < zs.length → w.cell? ⟨b, off + j, none⟩ = some (.int .i64 (zs.getD j 0))) :
    Calls Try.prog 48 #[.slice (some ⟨b, off, none⟩) n c] w fun e w' => ∃ v', e = .returned v' ∧ w'.ownsRow w.heap.size 2 1 v' n ((zs.take n).map (Value.int .i64)) ∧ v' ≠ .slice none 0 0 ∧ Below w.heap.size w w' := AnyG.slices_Clone_int Try.laysSlN41_f48 b off n c zs w hz hbig hc
open Go.RowKit Go.Lib in
/-- The same at nil: nil comes back; the world is as it was. (LAID AT THE INSTANCE 'slices.Clone[[]int64,int64]': no walk: one application.) -/
theorem Try.slices_Clone_int_nil (n c : Nat) (w : World) :
    Calls Try.prog 48 #[.slice none n c] w fun e w' => e = .returned (.slice none 0 0) ∧ w' = w := AnyG.slices_Clone_int_nil Try.laysSlN41_f48 n c w
open Go.RowKit Go.Lib in
/-- The same at a slice of length 0 that is not nil, WHATEVER ITS ADDRESS (no cell is asked for): a slice that is not nil and owns nothing comes back. (LAID AT THE INSTANCE 'slices.Clone[[]int64,int64]': no walk: one application.) -/
theorem Try.slices_Clone_int_zero (a : Addr) (c : Nat) (w : World) :
    Calls Try.prog 48 #[.slice (some a) 0 c] w fun e w' => ∃ v', e = .returned v' ∧ w'.ownsRow w.heap.size 2 1 v' 0 [] ∧ v' ≠ .slice none 0 0 ∧ Below w.heap.size w w' := AnyG.slices_Clone_int_zero Try.laysSlN41_f48 a c w
end Go.Proofs

/- The library's Max and Clone of whole numbers in the form that the printed proofs call. -/
namespace Go.Proofs.Ytokeeplkbgdokaa
open Go.RowKit Go.Proofs.YtokeeplkbgdokaaW.PrintWords Go.Proofs.YtokeeplkbgdokaaW.PrintLast Go.Proofs.YtokeeplkbgdokaaW.PrintMore
set_option linter.unusedSimpArgs false
set_option linter.unusedVariables false

theorem plain_addr {w : World} {ad : Addr} {u : Value} (h : w.cell? (ad.add 0) = some u) : ad = ⟨ad.block, ad.off, none⟩ := by
  obtain ⟨b, o, s⟩ := ad
  cases s with
  | none => rfl
  | some s =>
    exfalso
    unfold Addr.add at h
    simp only [World.cell?] at h
    split at h <;> simp at h
/-- A list that is read: where it lies, cell by cell. -/
theorem ints_at {w : World} {A0 : Option Addr} {l0 : List Int} (hr0 : Kd.C (Kd.int .i64) w A0 l0.length l0) (hp : 0 < l0.length) :
    ∃ b off, A0 = some ⟨b, off, none⟩ ∧ ∀ j, j < l0.length → w.cell? ⟨b, off + j, none⟩ = some (.int .i64 (l0.getD j 0)) := by
  obtain ⟨ad, ea, h0⟩ := Kd.at_int hr0 0 (by omega) (by omega)
  subst ea
  rw [show (0 : Int).toNat = 0 from rfl] at h0
  have hpl := plain_addr h0
  refine ⟨ad.block, ad.off, by rw [← hpl], fun j hj => ?_⟩
  obtain ⟨ad2, e2, h2⟩ := Kd.at_int hr0 j (by omega) (by omega)
  cases e2
  rw [Int.toNat_natCast, hpl, add_at] at h2
  rw [h2]
  simp [rd]

def slices_Max.f (l0 : List Int) : Option Int := if 0 < l0.length ∧ l0.length ≤ 1000000 then some (Lib.maxOf l0) else none
theorem slices_Max.calls (A0 : Option Addr) (c0 : Nat) (l0 : List Int) (r : Int) (w : World) (hr0 : Kd.C (Kd.int .i64) w A0 l0.length l0) (hc0 : l0.length ≤ c0) (h : slices_Max.f l0 = some r) :
    Calls Try.prog 39 #[.slice A0 l0.length c0] w fun e w' => e = .returned (.int .i64 r) ∧ Drawn0 w w' := by
  unfold slices_Max.f at h
  split at h
  case isFalse => cases h
  rename_i hs
  obtain rfl := Option.some.inj h
  obtain ⟨b, off, rfl, hc⟩ := ints_at hr0 hs.1
  refine (Try.slices_Max_int b off l0.length c0 l0 w hs.1 (Nat.le_refl _) (by omega) hc).mono ?_
  rintro e w' ⟨rfl, rfl⟩
  rw [List.take_length]
  exact ⟨rfl, ⟨0, rfl⟩⟩

def slices_Clone.f (l0 : List Int) : Option (List Int) := if l0.length ≤ 1000000 then some l0 else none
theorem ints_own {w : World} {base e : Nat} {v : Value} {l : List Int} (h : w.ownsRow base e 1 v l.length (l.map (Value.int .i64))) : Kd.R (Kd.int .i64) e w base (fun _ => True) v l := by
  refine ⟨fun _ _ => trivial, l.map (Value.int .i64), h, by simp [Kd.int, Kd.scalar], fun j p hj => ?_⟩
  show ((l.map (Value.int .i64)).drop (j * 1)).take 1 = [Value.int .i64 p]
  obtain ⟨hjl, hp⟩ := List.getElem?_eq_some_iff.1 hj
  rw [Nat.mul_one, List.drop_eq_getElem_cons (by simpa using hjl)]
  simp [hp]
theorem slices_Clone.calls (A0 : Option Addr) (c0 : Nat) (l0 : List Int) (r : List Int) (w : World) (hr0 : Kd.C (Kd.int .i64) w A0 l0.length l0) (hc0 : l0.length ≤ c0) (h : slices_Clone.f l0 = some r) :
    Calls Try.prog 48 #[.slice A0 l0.length c0] w fun e w' => ∃ v0_ : Value, e = .returned v0_ ∧ Kd.R (Kd.int .i64) 2 w' w.heap.size (fun _ => True) v0_ r ∧ Below w.heap.size w w' := by
  unfold slices_Clone.f at h
  split at h
  case isFalse => cases h
  rename_i hs
  obtain rfl := Option.some.inj h
  by_cases hp : 0 < l0.length
  · obtain ⟨b, off, rfl, hc⟩ := ints_at hr0 hp
    refine (Try.slices_Clone_int b off l0.length c0 l0 w (Nat.le_refl _) (by omega) hc).mono ?_
    rintro e w' ⟨v, rfl, ho, _, hb⟩
    rw [List.take_length] at ho
    exact ⟨v, rfl, ints_own ho, hb⟩
  · obtain rfl : l0 = [] := List.eq_nil_of_length_eq_zero (by omega)
    cases A0 with
    | none =>
      refine (Try.slices_Clone_int_nil 0 c0 w).mono ?_
      rintro e w' ⟨rfl, rfl⟩
      exact ⟨_, rfl, Kd.R_nil _ _ _ _ _, Below.refl _ _⟩
    | some a =>
      refine (Try.slices_Clone_int_zero a c0 w).mono ?_
      rintro e w' ⟨v, rfl, ho, _, hb⟩
      exact ⟨v, rfl, ints_own (l := []) ho, hb⟩
end Go.Proofs.Ytokeeplkbgdokaa

/- Functions of the program as Lean functions, each with a proof that a call of it comes to just that. Written by this session's program wip/tools/myprint.py. -/
namespace Go.Proofs.Ytokeeplkbgdokaa.Pq
open Go.RowKit Go.Proofs.YtokeeplkbgdokaaW.PrintWords Go.Proofs.YtokeeplkbgdokaaW.PrintLast Go.Proofs.YtokeeplkbgdokaaW.PrintMore
attribute [local go_sem] max2_int min2_int max_two min_two max_three min_three max_four min_four   -- for this text's walks alone
set_option linter.unusedVariables false
set_option linter.unusedSimpArgs false

/-! ### impl_within: function 38 -/
def impl_within.f (a0 : Int) (a1 : Int) (a2 : Int) : Option (Bool) := if a0 ≥ a1 then (some (decide (a0 ≤ a2))) else (some false)
set_option maxHeartbeats 8000000 in
set_option maxRecDepth 100000 in
theorem impl_within.calls (a0 : Int) (a1 : Int) (a2 : Int) (r : Bool) (w : World) (h : impl_within.f a0 a1 a2 = some r) :
  Calls Try.prog 38 #[.int .i64 a0, .int .i64 a1, .int .i64 a2] w fun e w' => e = .returned (.bool r) ∧ Drawn0 w w' := by
 have H : (if a0 ≥ a1 then (some (decide (a0 ≤ a2))) else (some false)) = some r := h
 clear h
 by_cases c4 : a0 ≥ a1
 ·rw [if_pos c4] at H
  have c4b0 : decide (a1 ≤ a0) = true := decide_eq_true c4
  clear c4
  obtain rfl := Option.some.inj H
  go_enter Try.func38, Try.ntmps38
  go_wp2
  go_ret
  exact ⟨by first | rfl | (simp; done) | (simp [*]; done), by repeat (first | exact Drawn0.refl _ | apply Drawn0.step)⟩
 ·rw [if_neg c4] at H
  have c4b0 : decide (a1 ≤ a0) = false := decide_eq_false c4
  clear c4
  obtain rfl := Option.some.inj H
  go_enter Try.func38, Try.ntmps38
  go_wp2
  go_ret
  exact ⟨by first | rfl | (simp; done) | (simp [*]; done), by repeat (first | exact Drawn0.refl _ | apply Drawn0.step)⟩

end Go.Proofs.Ytokeeplkbgdokaa.Pq

/- Functions of the program as Lean functions, each with a proof that a call of it comes to just that. Written by this session's program wip/tools/myprint.py. -/
namespace Go.Proofs.Ytokeeplkbgdokaa.Pq
open Go.RowKit Go.Proofs.YtokeeplkbgdokaaW.PrintWords Go.Proofs.YtokeeplkbgdokaaW.PrintLast Go.Proofs.YtokeeplkbgdokaaW.PrintMore
attribute [local go_sem] max2_int min2_int max_two min_two max_three min_three max_four min_four   -- for this text's walks alone
set_option linter.unusedVariables false
set_option linter.unusedSimpArgs false

/-! ### impl_ValidPlots: function 16 -/
def impl_ValidPlots.l0 : Nat → List (S40) → List (S40) → Int → Int → Option (Bool)
 | 0, _, _, _, _ => none
 | k + 1, x0, x5, x6, x7 => if x7 < x6 then (if 0 ≤ x7 then (if x7 < (x5.length : Int) then ((impl_within.f (wrap64 ((rd_T40 x5 x7).f0)) 0 1000).bind fun t149 => (if t149 = true then ((impl_within.f (wrap64 ((rd_T40 x5 x7).f1)) 0 20).bind fun t150 => (if t150 = true then ((impl_within.f (wrap64 ((rd_T40 x5 x7).f2)) 0 20).bind fun t151 => (if t151 = true then ((impl_within.f (wrap64 ((rd_T40 x5 x7).f3)) 0 1000).bind fun t152 => (if t152 = true then (impl_ValidPlots.l0 k x0 x5 x6 (wrap64 (x7 + 1))) else (some false))) else (some false))) else (some false))) else (some false))) else (none)) else (none)) else (some (decide ((x0.length : Int) ≤ 6)))
def impl_ValidPlots.f (k : Nat) (l0 : List (S40)) : Option (Bool) := impl_ValidPlots.l0 k l0 l0 (l0.length : Int) 0
theorem impl_ValidPlots.mono_l : ∀ k, (∀ y0 y1 y2 y3, LeO (impl_ValidPlots.l0 k y0 y1 y2 y3) (impl_ValidPlots.l0 (k + 1) y0 y1 y2 y3))
 | 0 => fun _ _ _ _ r h => by simp [impl_ValidPlots.l0] at h
 | k + 1 => by
  have ih0 := impl_ValidPlots.mono_l k
  ·intro y0 y1 y2 y3
   unfold impl_ValidPlots.l0
   repeat' first
   | (with_reducible exact ih0 _ _ _ _)
   | (with_reducible exact LeO.refl _)
   | (with_reducible exact LeO.none _)
   | (with_reducible refine LeO.ite ?_ ?_)
   | (with_reducible refine LeO.bind ?_ (fun _ => ?_))
   | exact ih0 _ _ _ _
   | exact LeO.none _
   | refine LeO.ite ?_ ?_
   | refine LeO.bind ?_ (fun _ => ?_)
theorem impl_ValidPlots.mono : ∀ a0 k, LeO (impl_ValidPlots.f k a0) (impl_ValidPlots.f (k + 1) a0) := by
 intro a0 k
 have ih0 := impl_ValidPlots.mono_l k
 unfold impl_ValidPlots.f
 repeat' first
   | (with_reducible exact ih0 _ _ _ _)
   | (with_reducible exact LeO.refl _)
   | (with_reducible exact LeO.none _)
   | (with_reducible refine LeO.ite ?_ ?_)
   | (with_reducible refine LeO.bind ?_ (fun _ => ?_))
   | exact ih0 _ _ _ _
   | exact LeO.none _
   | refine LeO.ite ?_ ?_
   | refine LeO.bind ?_ (fun _ => ?_)
set_option maxHeartbeats 8000000 in
set_option maxRecDepth 100000 in
theorem impl_ValidPlots.calls (k : Nat) (A0 : Option Addr) (c0 : Nat) (l0 : List (S40)) (r : Bool) (w : World) (hr0 : Kd.C k40 w A0 l0.length l0) (hc0 : l0.length ≤ c0) (h : impl_ValidPlots.f k l0 = some r) :
  Calls Try.prog 16 #[.slice A0 l0.length c0] w fun e w' => e = .returned (.bool r) ∧ Below w.heap.size w w' := by
 have hu40 := Try.underlying40
 have HR0 := Aside0.mk hr0
 have HC0 := Aside0.mk hc0
 clear hr0 hc0
 have HB := Aside0.mk (Below.refl w.heap.size w)
 have H : (impl_ValidPlots.l0 k l0 l0 (l0.length : Int) 0) = some r := h
 clear h
 have H' := Aside0.mk H
 clear H
 go_enter Try.func16, Try.ntmps16
 go_wp2
 go_loopg [7] k (fun kq v7 w' => ∃ (x7_1 : Int), v7 = .int .i64 x7_1 ∧ Aside0 (impl_ValidPlots.l0 kq l0 l0 (l0.length : Int) x7_1 = some r) ∧ Aside0 (kq ≤ k) ∧ Aside0 (Below w.heap.size w w'))
 case atStart => exact ⟨(0), (by first | rfl | (simp; done) | (simp [*]; done)), H', ⟨Nat.le_refl _⟩, ⟨by repeat (first | (with_reducible first | exact HB.out | apply below_alloc | apply pw_below_drewN | apply below_drew1) | exact HB.out)⟩⟩
 case round =>
  clear H'
  try clear c1
  obtain ⟨x7_1, rfl, HA, HK1, HB⟩ := hrel
  cases gk with
  | zero => exact absurd HA.out (by simp [impl_ValidPlots.l0])
  | succ k1 =>
   have H := HA.out
   clear HA
   simp only [impl_ValidPlots.l0] at H
   by_cases c2 : x7_1 < (l0.length : Int)
   ·rw [if_pos c2] at H
    have c2b0 : decide (x7_1 < (l0.length : Int)) = true := decide_eq_true c2
    clear c2
    by_cases c3 : 0 ≤ x7_1
    ·rw [if_pos c3] at H
     have c3b0 : decide (0 ≤ x7_1) = true := decide_eq_true c3
     clear c3
     by_cases c4 : x7_1 < (l0.length : Int)
     ·rw [if_pos c4] at H
      have c4b0 : decide (x7_1 < (l0.length : Int)) = true := decide_eq_true c4
      clear c4
      replace H := Option.bind_eq_some_iff.mp H
      obtain ⟨t149, A50, H⟩ := H
      replace H : (if t149 = true then ((impl_within.f (wrap64 ((rd_T40 l0 x7_1).f1)) 0 20).bind fun t150 => (if t150 = true then ((impl_within.f (wrap64 ((rd_T40 l0 x7_1).f2)) 0 20).bind fun t151 => (if t151 = true then ((impl_within.f (wrap64 ((rd_T40 l0 x7_1).f3)) 0 1000).bind fun t152 => (if t152 = true then (impl_ValidPlots.l0 k1 l0 l0 (l0.length : Int) (wrap64 (x7_1 + 1))) else (some false))) else (some false))) else (some false))) else (some false)) = some r := H
      have A5 := Aside0.mk A50
      clear A50
      by_cases c6 : t149 = true
      ·subst c6
       have H1 : ((impl_within.f (wrap64 ((rd_T40 l0 x7_1).f1)) 0 20).bind fun t150 => (if t150 = true then ((impl_within.f (wrap64 ((rd_T40 l0 x7_1).f2)) 0 20).bind fun t151 => (if t151 = true then ((impl_within.f (wrap64 ((rd_T40 l0 x7_1).f3)) 0 1000).bind fun t152 => (if t152 = true then (impl_ValidPlots.l0 k1 l0 l0 (l0.length : Int) (wrap64 (x7_1 + 1))) else (some false))) else (some false))) else (some false))) = some r := by rw [if_pos rfl] at H; exact H
       clear H
       have H := H1
       clear H1
       replace H := Option.bind_eq_some_iff.mp H
       obtain ⟨t150, A70, H⟩ := H
       replace H : (if t150 = true then ((impl_within.f (wrap64 ((rd_T40 l0 x7_1).f2)) 0 20).bind fun t151 => (if t151 = true then ((impl_within.f (wrap64 ((rd_T40 l0 x7_1).f3)) 0 1000).bind fun t152 => (if t152 = true then (impl_ValidPlots.l0 k1 l0 l0 (l0.length : Int) (wrap64 (x7_1 + 1))) else (some false))) else (some false))) else (some false)) = some r := H
       have A7 := Aside0.mk A70
       clear A70
       by_cases c8 : t150 = true
       ·subst c8
        have H1 : ((impl_within.f (wrap64 ((rd_T40 l0 x7_1).f2)) 0 20).bind fun t151 => (if t151 = true then ((impl_within.f (wrap64 ((rd_T40 l0 x7_1).f3)) 0 1000).bind fun t152 => (if t152 = true then (impl_ValidPlots.l0 k1 l0 l0 (l0.length : Int) (wrap64 (x7_1 + 1))) else (some false))) else (some false))) = some r := by rw [if_pos rfl] at H; exact H
        clear H
        have H := H1
        clear H1
        replace H := Option.bind_eq_some_iff.mp H
        obtain ⟨t151, A90, H⟩ := H
        replace H : (if t151 = true then ((impl_within.f (wrap64 ((rd_T40 l0 x7_1).f3)) 0 1000).bind fun t152 => (if t152 = true then (impl_ValidPlots.l0 k1 l0 l0 (l0.length : Int) (wrap64 (x7_1 + 1))) else (some false))) else (some false)) = some r := H
        have A9 := Aside0.mk A90
        clear A90
        by_cases c10 : t151 = true
        ·subst c10
         have H1 : ((impl_within.f (wrap64 ((rd_T40 l0 x7_1).f3)) 0 1000).bind fun t152 => (if t152 = true then (impl_ValidPlots.l0 k1 l0 l0 (l0.length : Int) (wrap64 (x7_1 + 1))) else (some false))) = some r := by rw [if_pos rfl] at H; exact H
         clear H
         have H := H1
         clear H1
         replace H := Option.bind_eq_some_iff.mp H
         obtain ⟨t152, A110, H⟩ := H
         replace H : (if t152 = true then (impl_ValidPlots.l0 k1 l0 l0 (l0.length : Int) (wrap64 (x7_1 + 1))) else (some false)) = some r := H
         have A11 := Aside0.mk A110
         clear A110
         by_cases c12 : t152 = true
         ·subst c12
          have H1 : (impl_ValidPlots.l0 k1 l0 l0 (l0.length : Int) (wrap64 (x7_1 + 1))) = some r := by rw [if_pos rfl] at H; exact H
          clear H
          have H := H1
          clear H1
          have H' := Aside0.mk H
          clear H
          have p147 : 0 ≤ (x7_1 : Int) := of_decide_eq_true (by first | (with_reducible assumption) | assumption)
          have q147 : x7_1 < (l0.length : Int) := of_decide_eq_true (by first | (with_reducible assumption) | assumption)
          obtain ⟨ad147, e147, hx147_0, hx147_1, hx147_2, hx147_3⟩ := at_T40 HR0.out x7_1 p147 q147
          cases e147
          replace hx147_0 := (HB.out.cell (World.block_lt_of_cell? w _ hx147_0)).trans hx147_0
          replace hx147_1 := (HB.out.cell (World.block_lt_of_cell? w _ hx147_1)).trans hx147_1
          replace hx147_2 := (HB.out.cell (World.block_lt_of_cell? w _ hx147_2)).trans hx147_2
          replace hx147_3 := (HB.out.cell (World.block_lt_of_cell? w _ hx147_3)).trans hx147_3
          replace p147 := eq_true p147
          replace q147 := eq_true q147
          go_wp2_with (first | ((with_reducible refine gate_dst (N := 4) rfl ?_); refine box_event ?hg (N := 4) ?hd (cs := #[.int .i16 0, .int .i16 0, .int .i16 0, .int .i16 0]) (t := 40) ?hr ?_; (case hd => rfl); (case hg => rfl); (case hr => first | (go_simp; done) | (go_simp; rfl)); intro gb148 hg w13 hbox hb; have n0_ := Aside0.mk (below_step (by repeat (first | (with_reducible first | exact HB.out | apply below_alloc | apply pw_below_drewN | apply below_drew1) | exact HB.out)) hb); have n1_ := Aside0.mk (hbox); have n2_ := Aside0.mk ((by rw [hg]; exact (below_size (by repeat (first | (with_reducible first | exact HB.out | apply below_alloc | apply pw_below_drewN | apply below_drew1) | exact HB.out))) : w.heap.size ≤ gb148)); have n3_ := Aside0.mk ((by rw [hg]; exact (below_size (by repeat (first | (with_reducible first | exact HB.out | apply below_alloc | apply pw_below_drewN | apply below_drew1) | exact HB.out))) : w.heap.size ≤ gb148)); clear HB; have HB := n0_; have BK148 := n1_; have GW148 := n2_; have GE148 := n3_; clear n0_ n1_ n2_ n3_; clear hb hbox hg; have hcz14_0 : w13.cell? ⟨gb148, 0, none⟩ = some (.int .i16 0) := (blk_cell BK148.out 0).trans rfl; have hcz14_1 : w13.cell? ⟨gb148, 1, none⟩ = some (.int .i16 0) := (blk_cell BK148.out 1).trans rfl; have hcz14_2 : w13.cell? ⟨gb148, 2, none⟩ = some (.int .i16 0) := (blk_cell BK148.out 2).trans rfl; have hcz14_3 : w13.cell? ⟨gb148, 3, none⟩ = some (.int .i16 0) := (blk_cell BK148.out 3).trans rfl; have hfz14_0 := blk_frozen BK148.out 0; have hfz14_1 := blk_frozen BK148.out 1; have hfz14_2 := blk_frozen BK148.out 2; have hfz14_3 := blk_frozen BK148.out 3) | ((with_reducible refine gate_callee (f := 38) rfl ?_); refine goesL_ (some 14) rfl rfl Try.func38 (by kernel_rfl) rfl #[.int .i64 (wrap64 ((rd_T40 l0 x7_1).f0)), .int .i64 0, .int .i64 1000] rfl (by (try simp only [List.map_toArray, List.map_cons, List.map_nil]); first | done | rfl | (simp only [List.length_drop, List.length_take]; rfl)) ?_; (with_reducible refine (impl_within.calls (wrap64 ((rd_T40 l0 x7_1).f0)) 0 1000 true _ A5.out).mono ?_); rintro e w' ⟨rfl, ⟨nd, rfl⟩⟩; refine ⟨_, rfl, ?_⟩) | (go_at_call 38; (with_reducible refine (impl_within.calls (wrap64 ((rd_T40 l0 x7_1).f1)) 0 20 true _ A7.out).mono ?_); rintro e w' ⟨rfl, ⟨nd, rfl⟩⟩) | (go_at_call 38; (with_reducible refine (impl_within.calls (wrap64 ((rd_T40 l0 x7_1).f2)) 0 20 true _ A9.out).mono ?_); rintro e w' ⟨rfl, ⟨nd, rfl⟩⟩) | (go_at_call 38; (with_reducible refine (impl_within.calls (wrap64 ((rd_T40 l0 x7_1).f3)) 0 1000 true _ A11.out).mono ?_); rintro e w' ⟨rfl, ⟨nd, rfl⟩⟩))
          go_roundg k1
          case measure => have := HK1.out; omega
          case rel => exact ⟨(wrap64 (x7_1 + 1)), (by first | rfl | (simp; done) | (simp [*]; done)), H', ⟨by have := HK1.out; omega⟩, ⟨by repeat (first | (with_reducible first | exact HB.out | apply below_alloc | apply pw_below_drewN | apply below_drew1 | refine below_set ?_ GE148.out) | exact HB.out)⟩⟩
         ·replace c12 := Bool.eq_false_iff.mpr c12
          subst c12
          have H1 : (some false) = some r := by rw [if_neg (show ¬ (false = true) by decide)] at H; exact H
          clear H
          have H := H1
          clear H1
          obtain rfl := Option.some.inj H
          have p147 : 0 ≤ (x7_1 : Int) := of_decide_eq_true (by first | (with_reducible assumption) | assumption)
          have q147 : x7_1 < (l0.length : Int) := of_decide_eq_true (by first | (with_reducible assumption) | assumption)
          obtain ⟨ad147, e147, hx147_0, hx147_1, hx147_2, hx147_3⟩ := at_T40 HR0.out x7_1 p147 q147
          cases e147
          replace hx147_0 := (HB.out.cell (World.block_lt_of_cell? w _ hx147_0)).trans hx147_0
          replace hx147_1 := (HB.out.cell (World.block_lt_of_cell? w _ hx147_1)).trans hx147_1
          replace hx147_2 := (HB.out.cell (World.block_lt_of_cell? w _ hx147_2)).trans hx147_2
          replace hx147_3 := (HB.out.cell (World.block_lt_of_cell? w _ hx147_3)).trans hx147_3
          replace p147 := eq_true p147
          replace q147 := eq_true q147
          go_wp2_with (first | ((with_reducible refine gate_dst (N := 4) rfl ?_); refine box_event ?hg (N := 4) ?hd (cs := #[.int .i16 0, .int .i16 0, .int .i16 0, .int .i16 0]) (t := 40) ?hr ?_; (case hd => rfl); (case hg => rfl); (case hr => first | (go_simp; done) | (go_simp; rfl)); intro gb148 hg w15 hbox hb; have n0_ := Aside0.mk (below_step (by repeat (first | (with_reducible first | exact HB.out | apply below_alloc | apply pw_below_drewN | apply below_drew1) | exact HB.out)) hb); have n1_ := Aside0.mk (hbox); have n2_ := Aside0.mk ((by rw [hg]; exact (below_size (by repeat (first | (with_reducible first | exact HB.out | apply below_alloc | apply pw_below_drewN | apply below_drew1) | exact HB.out))) : w.heap.size ≤ gb148)); have n3_ := Aside0.mk ((by rw [hg]; exact (below_size (by repeat (first | (with_reducible first | exact HB.out | apply below_alloc | apply pw_below_drewN | apply below_drew1) | exact HB.out))) : w.heap.size ≤ gb148)); clear HB; have HB := n0_; have BK148 := n1_; have GW148 := n2_; have GE148 := n3_; clear n0_ n1_ n2_ n3_; clear hb hbox hg; have hcz16_0 : w15.cell? ⟨gb148, 0, none⟩ = some (.int .i16 0) := (blk_cell BK148.out 0).trans rfl; have hcz16_1 : w15.cell? ⟨gb148, 1, none⟩ = some (.int .i16 0) := (blk_cell BK148.out 1).trans rfl; have hcz16_2 : w15.cell? ⟨gb148, 2, none⟩ = some (.int .i16 0) := (blk_cell BK148.out 2).trans rfl; have hcz16_3 : w15.cell? ⟨gb148, 3, none⟩ = some (.int .i16 0) := (blk_cell BK148.out 3).trans rfl; have hfz16_0 := blk_frozen BK148.out 0; have hfz16_1 := blk_frozen BK148.out 1; have hfz16_2 := blk_frozen BK148.out 2; have hfz16_3 := blk_frozen BK148.out 3) | ((with_reducible refine gate_callee (f := 38) rfl ?_); refine goesL_ (some 14) rfl rfl Try.func38 (by kernel_rfl) rfl #[.int .i64 (wrap64 ((rd_T40 l0 x7_1).f0)), .int .i64 0, .int .i64 1000] rfl (by (try simp only [List.map_toArray, List.map_cons, List.map_nil]); first | done | rfl | (simp only [List.length_drop, List.length_take]; rfl)) ?_; (with_reducible refine (impl_within.calls (wrap64 ((rd_T40 l0 x7_1).f0)) 0 1000 true _ A5.out).mono ?_); rintro e w' ⟨rfl, ⟨nd, rfl⟩⟩; refine ⟨_, rfl, ?_⟩) | (go_at_call 38; (with_reducible refine (impl_within.calls (wrap64 ((rd_T40 l0 x7_1).f1)) 0 20 true _ A7.out).mono ?_); rintro e w' ⟨rfl, ⟨nd, rfl⟩⟩) | (go_at_call 38; (with_reducible refine (impl_within.calls (wrap64 ((rd_T40 l0 x7_1).f2)) 0 20 true _ A9.out).mono ?_); rintro e w' ⟨rfl, ⟨nd, rfl⟩⟩) | (go_at_call 38; (with_reducible refine (impl_within.calls (wrap64 ((rd_T40 l0 x7_1).f3)) 0 1000 false _ A11.out).mono ?_); rintro e w' ⟨rfl, ⟨nd, rfl⟩⟩))
          go_ret
          exact ⟨by first | rfl | (simp [errW_none, errW_some] <;> rfl) | (simp [*, errW_none, errW_some] <;> rfl), by repeat (first | (with_reducible first | exact HB.out | apply below_alloc | apply pw_below_drewN | apply below_drew1 | refine below_set ?_ GE148.out) | exact HB.out)⟩
        ·replace c10 := Bool.eq_false_iff.mpr c10
         subst c10
         have H1 : (some false) = some r := by rw [if_neg (show ¬ (false = true) by decide)] at H; exact H
         clear H
         have H := H1
         clear H1
         obtain rfl := Option.some.inj H
         have p147 : 0 ≤ (x7_1 : Int) := of_decide_eq_true (by first | (with_reducible assumption) | assumption)
         have q147 : x7_1 < (l0.length : Int) := of_decide_eq_true (by first | (with_reducible assumption) | assumption)
         obtain ⟨ad147, e147, hx147_0, hx147_1, hx147_2, hx147_3⟩ := at_T40 HR0.out x7_1 p147 q147
         cases e147
         replace hx147_0 := (HB.out.cell (World.block_lt_of_cell? w _ hx147_0)).trans hx147_0
         replace hx147_1 := (HB.out.cell (World.block_lt_of_cell? w _ hx147_1)).trans hx147_1
         replace hx147_2 := (HB.out.cell (World.block_lt_of_cell? w _ hx147_2)).trans hx147_2
         replace hx147_3 := (HB.out.cell (World.block_lt_of_cell? w _ hx147_3)).trans hx147_3
         replace p147 := eq_true p147
         replace q147 := eq_true q147
         go_wp2_with (first | ((with_reducible refine gate_dst (N := 4) rfl ?_); refine box_event ?hg (N := 4) ?hd (cs := #[.int .i16 0, .int .i16 0, .int .i16 0, .int .i16 0]) (t := 40) ?hr ?_; (case hd => rfl); (case hg => rfl); (case hr => first | (go_simp; done) | (go_simp; rfl)); intro gb148 hg w17 hbox hb; have n0_ := Aside0.mk (below_step (by repeat (first | (with_reducible first | exact HB.out | apply below_alloc | apply pw_below_drewN | apply below_drew1) | exact HB.out)) hb); have n1_ := Aside0.mk (hbox); have n2_ := Aside0.mk ((by rw [hg]; exact (below_size (by repeat (first | (with_reducible first | exact HB.out | apply below_alloc | apply pw_below_drewN | apply below_drew1) | exact HB.out))) : w.heap.size ≤ gb148)); have n3_ := Aside0.mk ((by rw [hg]; exact (below_size (by repeat (first | (with_reducible first | exact HB.out | apply below_alloc | apply pw_below_drewN | apply below_drew1) | exact HB.out))) : w.heap.size ≤ gb148)); clear HB; have HB := n0_; have BK148 := n1_; have GW148 := n2_; have GE148 := n3_; clear n0_ n1_ n2_ n3_; clear hb hbox hg; have hcz18_0 : w17.cell? ⟨gb148, 0, none⟩ = some (.int .i16 0) := (blk_cell BK148.out 0).trans rfl; have hcz18_1 : w17.cell? ⟨gb148, 1, none⟩ = some (.int .i16 0) := (blk_cell BK148.out 1).trans rfl; have hcz18_2 : w17.cell? ⟨gb148, 2, none⟩ = some (.int .i16 0) := (blk_cell BK148.out 2).trans rfl; have hcz18_3 : w17.cell? ⟨gb148, 3, none⟩ = some (.int .i16 0) := (blk_cell BK148.out 3).trans rfl; have hfz18_0 := blk_frozen BK148.out 0; have hfz18_1 := blk_frozen BK148.out 1; have hfz18_2 := blk_frozen BK148.out 2; have hfz18_3 := blk_frozen BK148.out 3) | ((with_reducible refine gate_callee (f := 38) rfl ?_); refine goesL_ (some 14) rfl rfl Try.func38 (by kernel_rfl) rfl #[.int .i64 (wrap64 ((rd_T40 l0 x7_1).f0)), .int .i64 0, .int .i64 1000] rfl (by (try simp only [List.map_toArray, List.map_cons, List.map_nil]); first | done | rfl | (simp only [List.length_drop, List.length_take]; rfl)) ?_; (with_reducible refine (impl_within.calls (wrap64 ((rd_T40 l0 x7_1).f0)) 0 1000 true _ A5.out).mono ?_); rintro e w' ⟨rfl, ⟨nd, rfl⟩⟩; refine ⟨_, rfl, ?_⟩) | (go_at_call 38; (with_reducible refine (impl_within.calls (wrap64 ((rd_T40 l0 x7_1).f1)) 0 20 true _ A7.out).mono ?_); rintro e w' ⟨rfl, ⟨nd, rfl⟩⟩) | (go_at_call 38; (with_reducible refine (impl_within.calls (wrap64 ((rd_T40 l0 x7_1).f2)) 0 20 false _ A9.out).mono ?_); rintro e w' ⟨rfl, ⟨nd, rfl⟩⟩))
         go_ret
         exact ⟨by first | rfl | (simp [errW_none, errW_some] <;> rfl) | (simp [*, errW_none, errW_some] <;> rfl), by repeat (first | (with_reducible first | exact HB.out | apply below_alloc | apply pw_below_drewN | apply below_drew1 | refine below_set ?_ GE148.out) | exact HB.out)⟩
       ·replace c8 := Bool.eq_false_iff.mpr c8
        subst c8
        have H1 : (some false) = some r := by rw [if_neg (show ¬ (false = true) by decide)] at H; exact H
        clear H
        have H := H1
        clear H1
        obtain rfl := Option.some.inj H
        have p147 : 0 ≤ (x7_1 : Int) := of_decide_eq_true (by first | (with_reducible assumption) | assumption)
        have q147 : x7_1 < (l0.length : Int) := of_decide_eq_true (by first | (with_reducible assumption) | assumption)
        obtain ⟨ad147, e147, hx147_0, hx147_1, hx147_2, hx147_3⟩ := at_T40 HR0.out x7_1 p147 q147
        cases e147
        replace hx147_0 := (HB.out.cell (World.block_lt_of_cell? w _ hx147_0)).trans hx147_0
        replace hx147_1 := (HB.out.cell (World.block_lt_of_cell? w _ hx147_1)).trans hx147_1
        replace hx147_2 := (HB.out.cell (World.block_lt_of_cell? w _ hx147_2)).trans hx147_2
        replace hx147_3 := (HB.out.cell (World.block_lt_of_cell? w _ hx147_3)).trans hx147_3
        replace p147 := eq_true p147
        replace q147 := eq_true q147
        go_wp2_with (first | ((with_reducible refine gate_dst (N := 4) rfl ?_); refine box_event ?hg (N := 4) ?hd (cs := #[.int .i16 0, .int .i16 0, .int .i16 0, .int .i16 0]) (t := 40) ?hr ?_; (case hd => rfl); (case hg => rfl); (case hr => first | (go_simp; done) | (go_simp; rfl)); intro gb148 hg w19 hbox hb; have n0_ := Aside0.mk (below_step (by repeat (first | (with_reducible first | exact HB.out | apply below_alloc | apply pw_below_drewN | apply below_drew1) | exact HB.out)) hb); have n1_ := Aside0.mk (hbox); have n2_ := Aside0.mk ((by rw [hg]; exact (below_size (by repeat (first | (with_reducible first | exact HB.out | apply below_alloc | apply pw_below_drewN | apply below_drew1) | exact HB.out))) : w.heap.size ≤ gb148)); have n3_ := Aside0.mk ((by rw [hg]; exact (below_size (by repeat (first | (with_reducible first | exact HB.out | apply below_alloc | apply pw_below_drewN | apply below_drew1) | exact HB.out))) : w.heap.size ≤ gb148)); clear HB; have HB := n0_; have BK148 := n1_; have GW148 := n2_; have GE148 := n3_; clear n0_ n1_ n2_ n3_; clear hb hbox hg; have hcz20_0 : w19.cell? ⟨gb148, 0, none⟩ = some (.int .i16 0) := (blk_cell BK148.out 0).trans rfl; have hcz20_1 : w19.cell? ⟨gb148, 1, none⟩ = some (.int .i16 0) := (blk_cell BK148.out 1).trans rfl; have hcz20_2 : w19.cell? ⟨gb148, 2, none⟩ = some (.int .i16 0) := (blk_cell BK148.out 2).trans rfl; have hcz20_3 : w19.cell? ⟨gb148, 3, none⟩ = some (.int .i16 0) := (blk_cell BK148.out 3).trans rfl; have hfz20_0 := blk_frozen BK148.out 0; have hfz20_1 := blk_frozen BK148.out 1; have hfz20_2 := blk_frozen BK148.out 2; have hfz20_3 := blk_frozen BK148.out 3) | ((with_reducible refine gate_callee (f := 38) rfl ?_); refine goesL_ (some 14) rfl rfl Try.func38 (by kernel_rfl) rfl #[.int .i64 (wrap64 ((rd_T40 l0 x7_1).f0)), .int .i64 0, .int .i64 1000] rfl (by (try simp only [List.map_toArray, List.map_cons, List.map_nil]); first | done | rfl | (simp only [List.length_drop, List.length_take]; rfl)) ?_; (with_reducible refine (impl_within.calls (wrap64 ((rd_T40 l0 x7_1).f0)) 0 1000 true _ A5.out).mono ?_); rintro e w' ⟨rfl, ⟨nd, rfl⟩⟩; refine ⟨_, rfl, ?_⟩) | (go_at_call 38; (with_reducible refine (impl_within.calls (wrap64 ((rd_T40 l0 x7_1).f1)) 0 20 false _ A7.out).mono ?_); rintro e w' ⟨rfl, ⟨nd, rfl⟩⟩))
        go_ret
        exact ⟨by first | rfl | (simp [errW_none, errW_some] <;> rfl) | (simp [*, errW_none, errW_some] <;> rfl), by repeat (first | (with_reducible first | exact HB.out | apply below_alloc | apply pw_below_drewN | apply below_drew1 | refine below_set ?_ GE148.out) | exact HB.out)⟩
      ·replace c6 := Bool.eq_false_iff.mpr c6
       subst c6
       have H1 : (some false) = some r := by rw [if_neg (show ¬ (false = true) by decide)] at H; exact H
       clear H
       have H := H1
       clear H1
       obtain rfl := Option.some.inj H
       have p147 : 0 ≤ (x7_1 : Int) := of_decide_eq_true (by first | (with_reducible assumption) | assumption)
       have q147 : x7_1 < (l0.length : Int) := of_decide_eq_true (by first | (with_reducible assumption) | assumption)
       obtain ⟨ad147, e147, hx147_0, hx147_1, hx147_2, hx147_3⟩ := at_T40 HR0.out x7_1 p147 q147
       cases e147
       replace hx147_0 := (HB.out.cell (World.block_lt_of_cell? w _ hx147_0)).trans hx147_0
       replace hx147_1 := (HB.out.cell (World.block_lt_of_cell? w _ hx147_1)).trans hx147_1
       replace hx147_2 := (HB.out.cell (World.block_lt_of_cell? w _ hx147_2)).trans hx147_2
       replace hx147_3 := (HB.out.cell (World.block_lt_of_cell? w _ hx147_3)).trans hx147_3
       replace p147 := eq_true p147
       replace q147 := eq_true q147
       go_wp2_with (first | ((with_reducible refine gate_dst (N := 4) rfl ?_); refine box_event ?hg (N := 4) ?hd (cs := #[.int .i16 0, .int .i16 0, .int .i16 0, .int .i16 0]) (t := 40) ?hr ?_; (case hd => rfl); (case hg => rfl); (case hr => first | (go_simp; done) | (go_simp; rfl)); intro gb148 hg w21 hbox hb; have n0_ := Aside0.mk (below_step (by repeat (first | (with_reducible first | exact HB.out | apply below_alloc | apply pw_below_drewN | apply below_drew1) | exact HB.out)) hb); have n1_ := Aside0.mk (hbox); have n2_ := Aside0.mk ((by rw [hg]; exact (below_size (by repeat (first | (with_reducible first | exact HB.out | apply below_alloc | apply pw_below_drewN | apply below_drew1) | exact HB.out))) : w.heap.size ≤ gb148)); have n3_ := Aside0.mk ((by rw [hg]; exact (below_size (by repeat (first | (with_reducible first | exact HB.out | apply below_alloc | apply pw_below_drewN | apply below_drew1) | exact HB.out))) : w.heap.size ≤ gb148)); clear HB; have HB := n0_; have BK148 := n1_; have GW148 := n2_; have GE148 := n3_; clear n0_ n1_ n2_ n3_; clear hb hbox hg; have hcz22_0 : w21.cell? ⟨gb148, 0, none⟩ = some (.int .i16 0) := (blk_cell BK148.out 0).trans rfl; have hcz22_1 : w21.cell? ⟨gb148, 1, none⟩ = some (.int .i16 0) := (blk_cell BK148.out 1).trans rfl; have hcz22_2 : w21.cell? ⟨gb148, 2, none⟩ = some (.int .i16 0) := (blk_cell BK148.out 2).trans rfl; have hcz22_3 : w21.cell? ⟨gb148, 3, none⟩ = some (.int .i16 0) := (blk_cell BK148.out 3).trans rfl; have hfz22_0 := blk_frozen BK148.out 0; have hfz22_1 := blk_frozen BK148.out 1; have hfz22_2 := blk_frozen BK148.out 2; have hfz22_3 := blk_frozen BK148.out 3) | ((with_reducible refine gate_callee (f := 38) rfl ?_); refine goesL_ (some 14) rfl rfl Try.func38 (by kernel_rfl) rfl #[.int .i64 (wrap64 ((rd_T40 l0 x7_1).f0)), .int .i64 0, .int .i64 1000] rfl (by (try simp only [List.map_toArray, List.map_cons, List.map_nil]); first | done | rfl | (simp only [List.length_drop, List.length_take]; rfl)) ?_; (with_reducible refine (impl_within.calls (wrap64 ((rd_T40 l0 x7_1).f0)) 0 1000 false _ A5.out).mono ?_); rintro e w' ⟨rfl, ⟨nd, rfl⟩⟩; refine ⟨_, rfl, ?_⟩))
       go_ret
       exact ⟨by first | rfl | (simp [errW_none, errW_some] <;> rfl) | (simp [*, errW_none, errW_some] <;> rfl), by repeat (first | (with_reducible first | exact HB.out | apply below_alloc | apply pw_below_drewN | apply below_drew1 | refine below_set ?_ GE148.out) | exact HB.out)⟩
     ·rw [if_neg c4] at H
      exact absurd H (by simp)
    ·rw [if_neg c3] at H
     exact absurd H (by simp)
   ·rw [if_neg c2] at H
    have c2b0 : decide (x7_1 < (l0.length : Int)) = false := decide_eq_false c2
    clear c2
    obtain rfl := Option.some.inj H
    go_wp2
    go_ret
    exact ⟨by first | rfl | (simp [errW_none, errW_some] <;> rfl) | (simp [*, errW_none, errW_some] <;> rfl), by repeat (first | (with_reducible first | exact HB.out | apply below_alloc | apply pw_below_drewN | apply below_drew1) | exact HB.out)⟩

end Go.Proofs.Ytokeeplkbgdokaa.Pq

/- Functions of the program as Lean functions, each with a proof that a call of it comes to just that. Written by this session's program wip/tools/myprint.py. -/
namespace Go.Proofs.Ytokeeplkbgdokaa.Pq
open Go.RowKit Go.Proofs.YtokeeplkbgdokaaW.PrintWords Go.Proofs.YtokeeplkbgdokaaW.PrintLast Go.Proofs.YtokeeplkbgdokaaW.PrintMore
attribute [local go_sem] max2_int min2_int max_two min_two max_three min_three max_four min_four   -- for this text's walks alone
set_option linter.unusedVariables false
set_option linter.unusedSimpArgs false

/-! ### impl_areHands: function 26 -/
def impl_areHands.f (a0 : Int) : Option (Bool) := (impl_within.f a0 1 3).bind fun t154 => (some t154)
set_option maxHeartbeats 8000000 in
set_option maxRecDepth 100000 in
theorem impl_areHands.calls (a0 : Int) (r : Bool) (w : World) (h : impl_areHands.f a0 = some r) :
  Calls Try.prog 26 #[.int .i64 a0] w fun e w' => e = .returned (.bool r) ∧ Drawn0 w w' := by
 have H : ((impl_within.f a0 1 3).bind fun t154 => (some t154)) = some r := h
 clear h
 replace H := Option.bind_eq_some_iff.mp H
 obtain ⟨t154, A20, H⟩ := H
 replace H : (some t154) = some r := H
 have A2 := Aside0.mk A20
 clear A20
 obtain rfl := Option.some.inj H
 go_enter Try.func26, Try.ntmps26
 go_wp2_with (first | ((with_reducible refine gate_callee (f := 38) rfl ?_); refine goesL_ (some 4) rfl rfl Try.func38 (by kernel_rfl) rfl #[.int .i64 a0, .int .i64 1, .int .i64 3] rfl (by (try simp only [List.map_toArray, List.map_cons, List.map_nil]); first | done | rfl | (simp only [List.length_drop, List.length_take]; rfl)) ?_; (with_reducible refine (impl_within.calls a0 1 3 t154 _ A2.out).mono ?_); rintro e w' ⟨rfl, ⟨nd, rfl⟩⟩; refine ⟨_, rfl, ?_⟩))
 go_ret
 exact ⟨by first | rfl | (simp; done) | (simp [*]; done), by repeat (first | exact Drawn0.refl _ | apply Drawn0.step)⟩

end Go.Proofs.Ytokeeplkbgdokaa.Pq

/- impl.ValidPlan in the form that the printed proofs call. -/
namespace Go.Proofs.Ytokeeplkbgdokaa
open Go.RowKit Go.Proofs.YtokeeplkbgdokaaW.PrintWords Go.Proofs.YtokeeplkbgdokaaW.PrintLast Go.Proofs.YtokeeplkbgdokaaW.PrintMore Go.Proofs.Ytokeeplkbgdokaa.Pq
set_option linter.unusedSimpArgs false
set_option linter.unusedVariables false

/-- How often a day stands in a plan. -/
def dayCount (p : List Int) (d : Nat) : Int := ((p.count (d : Int) : Nat) : Int)
def planDays (p : List Int) : Bool := p.all fun d => decide (-1 ≤ d ∧ d ≤ 19)
def counts (p : List Int) : List Int := (List.range 20).map (dayCount p)
def plotOk (x : S40) : Bool := decide (0 ≤ x.f0 ∧ x.f0 ≤ 1000 ∧ 0 ≤ x.f1 ∧ x.f1 ≤ 20 ∧ 0 ≤ x.f2 ∧ x.f2 ≤ 20 ∧ 0 ≤ x.f3 ∧ x.f3 ≤ 1000)
def planOk (l : List S40) (h : Int) (p : List Int) : Bool :=
  (l.all plotOk && decide (l.length ≤ 6)) && decide (1 ≤ h ∧ h ≤ 3) && decide (p.length = l.length) && planDays p && decide (Lib.maxOf (counts p) ≤ h)
abbrev plWf (x : S40) : Prop := (-32768 ≤ x.f0 ∧ x.f0 ≤ 32767) ∧ (-32768 ≤ x.f1 ∧ x.f1 ≤ 32767) ∧ (-32768 ≤ x.f2 ∧ x.f2 ≤ 32767) ∧ (-32768 ≤ x.f3 ∧ x.f3 ≤ 32767)
theorem pl_getD {α : Type} (l : List α) (d : α) {k : Nat} (h : k < l.length) : l.getD k d = l[k] := by
  simp [List.getD, List.getElem?_eq_getElem h]
theorem pl_rd (l : List S40) (i : Nat) (h : i < l.length) : rd_T40 l (i : Int) = l[i] := by
  unfold rd_T40; rw [Int.toNat_natCast, pl_getD _ _ h]
theorem pl_within (a b c : Int) : impl_within.f a b c = some (decide (b ≤ a ∧ a ≤ c)) := by
  simp only [impl_within.f]
  by_cases h1 : a ≥ b
  · rw [if_pos h1]
    by_cases h2 : a ≤ c
    · rw [decide_eq_true h2, decide_eq_true ⟨h1, h2⟩]
    · rw [decide_eq_false h2, decide_eq_false (fun h => h2 h.2)]
  · rw [if_neg h1, decide_eq_false (fun h => h1 h.1)]
theorem pl_next (i n : Nat) (h : i < n) (hn : n ≤ 9223372036854775807) : wrap64 ((i : Int) + 1) = ((i + 1 : Nat) : Int) := by unfold wrap64; omega
theorem plots_loop (l : List S40) (hn : l.length ≤ 1000000) (hw : ∀ x ∈ l, plWf x) (d : Nat) : ∀ (k i : Nat), i ≤ l.length → l.length - i = d → d < k →
    impl_ValidPlots.l0 k l l (l.length : Int) (i : Int) = some ((l.drop i).all plotOk && decide (l.length ≤ 6)) := by
  induction d with
  | zero =>
    intro k i h1 h2 h3
    obtain ⟨k, rfl⟩ : ∃ m, k = m + 1 := ⟨k - 1, by omega⟩
    rw [impl_ValidPlots.l0, if_neg (by omega), List.drop_of_length_le (by omega)]
    simp only [List.all_nil, Bool.true_and]
    congr 1
    by_cases h : l.length ≤ 6
    · rw [decide_eq_true h, decide_eq_true (by omega)]
    · rw [decide_eq_false h, decide_eq_false (by omega)]
  | succ d ih =>
    intro k i h1 h2 h3
    obtain ⟨k, rfl⟩ : ∃ m, k = m + 1 := ⟨k - 1, by omega⟩
    have hlt : i < l.length := by omega
    obtain ⟨q0, q1, q2, q3⟩ := hw l[i] (List.getElem_mem hlt)
    have e0 : wrap64 l[i].f0 = l[i].f0 := by unfold wrap64; omega
    have e1 : wrap64 l[i].f1 = l[i].f1 := by unfold wrap64; omega
    have e2 : wrap64 l[i].f2 = l[i].f2 := by unfold wrap64; omega
    have e3 : wrap64 l[i].f3 = l[i].f3 := by unfold wrap64; omega
    rw [impl_ValidPlots.l0, if_pos (by omega), if_pos (by omega), if_pos (by omega), pl_rd l i hlt, e0, e1, e2, e3]
    simp only [pl_within, Option.bind_some]
    rw [List.drop_eq_getElem_cons hlt, List.all_cons, pl_next i l.length hlt (by omega), ih k (i + 1) (by omega) (by omega) (by omega)]
    unfold plotOk
    by_cases c0 : 0 ≤ l[i].f0 ∧ l[i].f0 ≤ 1000 <;> by_cases c1 : 0 ≤ l[i].f1 ∧ l[i].f1 ≤ 20 <;> by_cases c2 : 0 ≤ l[i].f2 ∧ l[i].f2 ≤ 20 <;> by_cases c3 : 0 ≤ l[i].f3 ∧ l[i].f3 ≤ 1000 <;> simp [c0, c1, c2, c3] <;> omega
theorem plots_f (l : List S40) (hn : l.length ≤ 1000000) (hw : ∀ x ∈ l, plWf x) (k : Nat) (hk : l.length < k) : impl_ValidPlots.f k l = some (l.all plotOk && decide (l.length ≤ 6)) := by
  have := plots_loop l hn hw l.length k 0 (by omega) (by omega) hk
  simpa [impl_ValidPlots.f] using this
end Go.Proofs.Ytokeeplkbgdokaa

/- Functions of the program as Lean functions, each with a proof that a call of it comes to just that. Written by this session's program wip/tools/myprint.py. -/
namespace Go.Proofs.Ytokeeplkbgdokaa.Pq
open Go.RowKit Go.Proofs.YtokeeplkbgdokaaW.PrintWords Go.Proofs.YtokeeplkbgdokaaW.PrintLast Go.Proofs.YtokeeplkbgdokaaW.PrintMore
attribute [local go_sem] max2_int min2_int max_two min_two max_three min_three max_four min_four   -- for this text's walks alone
set_option linter.unusedVariables false
set_option linter.unusedSimpArgs false

/-! ### spec_l00In: function 50 -/
def spec_l00In.f (a0 : Int) (a1 : Int) (a2 : Int) : Option (Bool) := if a0 ≥ a1 then (some (decide (a0 ≤ a2))) else (some false)
set_option maxHeartbeats 8000000 in
set_option maxRecDepth 100000 in
theorem spec_l00In.calls (a0 : Int) (a1 : Int) (a2 : Int) (r : Bool) (w : World) (h : spec_l00In.f a0 a1 a2 = some r) :
  Calls Try.prog 50 #[.int .i64 a0, .int .i64 a1, .int .i64 a2] w fun e w' => e = .returned (.bool r) ∧ Drawn0 w w' := by
 have H : (if a0 ≥ a1 then (some (decide (a0 ≤ a2))) else (some false)) = some r := h
 clear h
 by_cases c4 : a0 ≥ a1
 ·rw [if_pos c4] at H
  have c4b0 : decide (a1 ≤ a0) = true := decide_eq_true c4
  clear c4
  obtain rfl := Option.some.inj H
  go_enter Try.func50, Try.ntmps50
  go_wp2
  go_ret
  exact ⟨by first | rfl | (simp; done) | (simp [*]; done), by repeat (first | exact Drawn0.refl _ | apply Drawn0.step)⟩
 ·rw [if_neg c4] at H
  have c4b0 : decide (a1 ≤ a0) = false := decide_eq_false c4
  clear c4
  obtain rfl := Option.some.inj H
  go_enter Try.func50, Try.ntmps50
  go_wp2
  go_ret
  exact ⟨by first | rfl | (simp; done) | (simp [*]; done), by repeat (first | exact Drawn0.refl _ | apply Drawn0.step)⟩

end Go.Proofs.Ytokeeplkbgdokaa.Pq

/- Functions of the program as Lean functions, each with a proof that a call of it comes to just that. Written by this session's program wip/tools/myprint.py. -/
namespace Go.Proofs.Ytokeeplkbgdokaa.Pq
open Go.RowKit Go.Proofs.YtokeeplkbgdokaaW.PrintWords Go.Proofs.YtokeeplkbgdokaaW.PrintLast Go.Proofs.YtokeeplkbgdokaaW.PrintMore
attribute [local go_sem] max2_int min2_int max_two min_two max_three min_three max_four min_four   -- for this text's walks alone
set_option linter.unusedVariables false
set_option linter.unusedSimpArgs false

/-! ### spec_l00Max: function 51 -/
def spec_l00Max.f (a0 : Int) (a1 : Int) : Option (Int) := if a0 > a1 then (some a0) else (some a1)
set_option maxHeartbeats 8000000 in
set_option maxRecDepth 100000 in
theorem spec_l00Max.calls (a0 : Int) (a1 : Int) (r : Int) (w : World) (h : spec_l00Max.f a0 a1 = some r) :
  Calls Try.prog 51 #[.int .i64 a0, .int .i64 a1] w fun e w' => e = .returned (.int .i64 r) ∧ Drawn0 w w' := by
 have H : (if a0 > a1 then (some a0) else (some a1)) = some r := h
 clear h
 by_cases c3 : a0 > a1
 ·rw [if_pos c3] at H
  have c3b0 : decide (a1 < a0) = true := decide_eq_true c3
  clear c3
  obtain rfl := Option.some.inj H
  go_enter Try.func51, Try.ntmps51
  go_wp2
  go_ret
  exact ⟨by first | rfl | (simp; done) | (simp [*]; done), by repeat (first | exact Drawn0.refl _ | apply Drawn0.step)⟩
 ·rw [if_neg c3] at H
  have c3b0 : decide (a1 < a0) = false := decide_eq_false c3
  clear c3
  obtain rfl := Option.some.inj H
  go_enter Try.func51, Try.ntmps51
  go_wp2
  go_ret
  exact ⟨by first | rfl | (simp; done) | (simp [*]; done), by repeat (first | exact Drawn0.refl _ | apply Drawn0.step)⟩

end Go.Proofs.Ytokeeplkbgdokaa.Pq

/- Functions of the program as Lean functions, each with a proof that a call of it comes to just that. Written by this session's program wip/tools/myprint.py. -/
namespace Go.Proofs.Ytokeeplkbgdokaa.Pq
open Go.RowKit Go.Proofs.YtokeeplkbgdokaaW.PrintWords Go.Proofs.YtokeeplkbgdokaaW.PrintLast Go.Proofs.YtokeeplkbgdokaaW.PrintMore
attribute [local go_sem] max2_int min2_int max_two min_two max_three min_three max_four min_four   -- for this text's walks alone
set_option linter.unusedVariables false
set_option linter.unusedSimpArgs false

/-! ### spec_l07Worth: function 35 -/
def spec_l07Worth.f (a0_0 : Int) (a0_1 : Int) (a0_2 : Int) (a0_3 : Int) (a1 : Int) : Option (Int) := (spec_l00In.f (wrap64 (a1 - (wrap64 (a0_1)))) 0 (wrap64 (a0_2))).bind fun t239 => (if t239 = true then ((spec_l00Max.f 0 (wrap64 ((wrap64 (a0_0)) - (wrap64 ((wrap64 (a0_3)) * (wrap64 (a1 - (wrap64 (a0_1))))))))).bind fun t240 => (some t240)) else (some 0))
set_option maxHeartbeats 8000000 in
set_option maxRecDepth 100000 in
theorem spec_l07Worth.calls (a0_0 : Int) (a0_1 : Int) (a0_2 : Int) (a0_3 : Int) (a1 : Int) (r : Int) (w : World) (h : spec_l07Worth.f a0_0 a0_1 a0_2 a0_3 a1 = some r) :
  Calls Try.prog 35 #[.agg #[.int .i16 a0_0, .int .i16 a0_1, .int .i16 a0_2, .int .i16 a0_3], .int .i64 a1] w fun e w' => e = .returned (.int .i64 r) ∧ Below w.heap.size w w' := by
 have hu40 := Try.underlying40
 have HB := Aside0.mk (Below.refl w.heap.size w)
 have H : ((spec_l00In.f (wrap64 (a1 - (wrap64 (a0_1)))) 0 (wrap64 (a0_2))).bind fun t239 => (if t239 = true then ((spec_l00Max.f 0 (wrap64 ((wrap64 (a0_0)) - (wrap64 ((wrap64 (a0_3)) * (wrap64 (a1 - (wrap64 (a0_1))))))))).bind fun t240 => (some t240)) else (some 0))) = some r := h
 clear h
 replace H := Option.bind_eq_some_iff.mp H
 obtain ⟨t239, A30, H⟩ := H
 replace H : (if t239 = true then ((spec_l00Max.f 0 (wrap64 ((wrap64 (a0_0)) - (wrap64 ((wrap64 (a0_3)) * (wrap64 (a1 - (wrap64 (a0_1))))))))).bind fun t240 => (some t240)) else (some 0)) = some r := H
 have A3 := Aside0.mk A30
 clear A30
 by_cases c4 : t239 = true
 ·subst c4
  have H1 : ((spec_l00Max.f 0 (wrap64 ((wrap64 (a0_0)) - (wrap64 ((wrap64 (a0_3)) * (wrap64 (a1 - (wrap64 (a0_1))))))))).bind fun t240 => (some t240)) = some r := by rw [if_pos rfl] at H; exact H
  clear H
  have H := H1
  clear H1
  replace H := Option.bind_eq_some_iff.mp H
  obtain ⟨t240, A50, H⟩ := H
  replace H : (some t240) = some r := H
  have A5 := Aside0.mk A50
  clear A50
  obtain rfl := Option.some.inj H
  go_enter Try.func35, Try.ntmps35
  go_wp2_with (first | ((with_reducible refine gate_dst (N := 2) rfl ?_); refine box_event ?hg (N := 2) ?hd (cs := #[.int .i16 a0_0, .int .i16 a0_1, .int .i16 a0_2, .int .i16 a0_3]) (t := 40) ?hr ?_; (case hd => rfl); (case hg => rfl); (case hr => first | (go_simp; done) | (go_simp; rfl)); intro gb238 hg w6 hbox hb; have n0_ := Aside0.mk (below_step (by repeat (first | (with_reducible first | exact HB.out | apply below_alloc | apply pw_below_drewN | apply below_drew1) | exact HB.out)) hb); have n1_ := Aside0.mk (hbox); have n2_ := Aside0.mk ((by rw [hg]; exact (below_size (by repeat (first | (with_reducible first | exact HB.out | apply below_alloc | apply pw_below_drewN | apply below_drew1) | exact HB.out))) : w.heap.size ≤ gb238)); have n3_ := Aside0.mk ((by rw [hg]; exact (below_size (by repeat (first | (with_reducible first | exact HB.out | apply below_alloc | apply pw_below_drewN | apply below_drew1) | exact HB.out))) : w.heap.size ≤ gb238)); clear HB; have HB := n0_; have BK238 := n1_; have GW238 := n2_; have GE238 := n3_; clear n0_ n1_ n2_ n3_; clear hb hbox hg; have hcz7_0 : w6.cell? ⟨gb238, 0, none⟩ = some (.int .i16 a0_0) := (blk_cell BK238.out 0).trans rfl; have hcz7_1 : w6.cell? ⟨gb238, 1, none⟩ = some (.int .i16 a0_1) := (blk_cell BK238.out 1).trans rfl; have hcz7_2 : w6.cell? ⟨gb238, 2, none⟩ = some (.int .i16 a0_2) := (blk_cell BK238.out 2).trans rfl; have hcz7_3 : w6.cell? ⟨gb238, 3, none⟩ = some (.int .i16 a0_3) := (blk_cell BK238.out 3).trans rfl; have hfz7_0 := blk_frozen BK238.out 0; have hfz7_1 := blk_frozen BK238.out 1; have hfz7_2 := blk_frozen BK238.out 2; have hfz7_3 := blk_frozen BK238.out 3) | ((with_reducible refine gate_callee (f := 50) rfl ?_); refine goesL_ (some 15) rfl rfl Try.func50 (by kernel_rfl) rfl #[.int .i64 (wrap64 (a1 - (wrap64 (a0_1)))), .int .i64 0, .int .i64 (wrap64 (a0_2))] rfl (by (try simp only [List.map_toArray, List.map_cons, List.map_nil]); first | done | rfl | (simp only [List.length_drop, List.length_take]; rfl)) ?_; (with_reducible refine (spec_l00In.calls (wrap64 (a1 - (wrap64 (a0_1)))) 0 (wrap64 (a0_2)) true _ A3.out).mono ?_); rintro e w' ⟨rfl, ⟨nd, rfl⟩⟩; refine ⟨_, rfl, ?_⟩) | ((with_reducible refine gate_callee (f := 51) rfl ?_); refine goesL_ (some 26) rfl rfl Try.func51 (by kernel_rfl) rfl #[.int .i64 0, .int .i64 (wrap64 ((wrap64 (a0_0)) - (wrap64 ((wrap64 (a0_3)) * (wrap64 (a1 - (wrap64 (a0_1))))))))] rfl (by (try simp only [List.map_toArray, List.map_cons, List.map_nil]); first | done | rfl | (simp only [List.length_drop, List.length_take]; rfl)) ?_; (with_reducible refine (spec_l00Max.calls 0 (wrap64 ((wrap64 (a0_0)) - (wrap64 ((wrap64 (a0_3)) * (wrap64 (a1 - (wrap64 (a0_1)))))))) t240 _ A5.out).mono ?_); rintro e w' ⟨rfl, ⟨nd, rfl⟩⟩; refine ⟨_, rfl, ?_⟩))
  go_ret
  exact ⟨by first | rfl | (simp [errW_none, errW_some] <;> rfl) | (simp [*, errW_none, errW_some] <;> rfl), by repeat (first | (with_reducible first | exact HB.out | apply below_alloc | apply pw_below_drewN | apply below_drew1 | refine below_set ?_ GE238.out) | exact HB.out)⟩
 ·replace c4 := Bool.eq_false_iff.mpr c4
  subst c4
  have H1 : (some 0) = some r := by rw [if_neg (show ¬ (false = true) by decide)] at H; exact H
  clear H
  have H := H1
  clear H1
  obtain rfl := Option.some.inj H
  go_enter Try.func35, Try.ntmps35
  go_wp2_with (first | ((with_reducible refine gate_dst (N := 2) rfl ?_); refine box_event ?hg (N := 2) ?hd (cs := #[.int .i16 a0_0, .int .i16 a0_1, .int .i16 a0_2, .int .i16 a0_3]) (t := 40) ?hr ?_; (case hd => rfl); (case hg => rfl); (case hr => first | (go_simp; done) | (go_simp; rfl)); intro gb238 hg w8 hbox hb; have n0_ := Aside0.mk (below_step (by repeat (first | (with_reducible first | exact HB.out | apply below_alloc | apply pw_below_drewN | apply below_drew1) | exact HB.out)) hb); have n1_ := Aside0.mk (hbox); have n2_ := Aside0.mk ((by rw [hg]; exact (below_size (by repeat (first | (with_reducible first | exact HB.out | apply below_alloc | apply pw_below_drewN | apply below_drew1) | exact HB.out))) : w.heap.size ≤ gb238)); have n3_ := Aside0.mk ((by rw [hg]; exact (below_size (by repeat (first | (with_reducible first | exact HB.out | apply below_alloc | apply pw_below_drewN | apply below_drew1) | exact HB.out))) : w.heap.size ≤ gb238)); clear HB; have HB := n0_; have BK238 := n1_; have GW238 := n2_; have GE238 := n3_; clear n0_ n1_ n2_ n3_; clear hb hbox hg; have hcz9_0 : w8.cell? ⟨gb238, 0, none⟩ = some (.int .i16 a0_0) := (blk_cell BK238.out 0).trans rfl; have hcz9_1 : w8.cell? ⟨gb238, 1, none⟩ = some (.int .i16 a0_1) := (blk_cell BK238.out 1).trans rfl; have hcz9_2 : w8.cell? ⟨gb238, 2, none⟩ = some (.int .i16 a0_2) := (blk_cell BK238.out 2).trans rfl; have hcz9_3 : w8.cell? ⟨gb238, 3, none⟩ = some (.int .i16 a0_3) := (blk_cell BK238.out 3).trans rfl; have hfz9_0 := blk_frozen BK238.out 0; have hfz9_1 := blk_frozen BK238.out 1; have hfz9_2 := blk_frozen BK238.out 2; have hfz9_3 := blk_frozen BK238.out 3) | ((with_reducible refine gate_callee (f := 50) rfl ?_); refine goesL_ (some 15) rfl rfl Try.func50 (by kernel_rfl) rfl #[.int .i64 (wrap64 (a1 - (wrap64 (a0_1)))), .int .i64 0, .int .i64 (wrap64 (a0_2))] rfl (by (try simp only [List.map_toArray, List.map_cons, List.map_nil]); first | done | rfl | (simp only [List.length_drop, List.length_take]; rfl)) ?_; (with_reducible refine (spec_l00In.calls (wrap64 (a1 - (wrap64 (a0_1)))) 0 (wrap64 (a0_2)) false _ A3.out).mono ?_); rintro e w' ⟨rfl, ⟨nd, rfl⟩⟩; refine ⟨_, rfl, ?_⟩))
  go_ret
  exact ⟨by first | rfl | (simp [errW_none, errW_some] <;> rfl) | (simp [*, errW_none, errW_some] <;> rfl), by repeat (first | (with_reducible first | exact HB.out | apply below_alloc | apply pw_below_drewN | apply below_drew1 | refine below_set ?_ GE238.out) | exact HB.out)⟩

end Go.Proofs.Ytokeeplkbgdokaa.Pq

/- Functions of the program as Lean functions, each with a proof that a call of it comes to just that. Written by this session's program wip/tools/myprint.py. -/
namespace Go.Proofs.Ytokeeplkbgdokaa.Pq
open Go.RowKit Go.Proofs.YtokeeplkbgdokaaW.PrintWords Go.Proofs.YtokeeplkbgdokaaW.PrintLast Go.Proofs.YtokeeplkbgdokaaW.PrintMore
attribute [local go_sem] max2_int min2_int max_two min_two max_three min_three max_four min_four   -- for this text's walks alone
set_option linter.unusedVariables false
set_option linter.unusedSimpArgs false

/-! ### spec_l07Sum: function 31 -/
def spec_l07Sum.l0 : Nat → List (S40) → List Int → Int → Int → Option (Int)
 | 0, _, _, _, _ => none
 | k + 1, x0, x1, x5, x6 => if x6 < (x1.length : Int) then (if 0 ≤ x6 then (if (rd x1 x6) ≥ 0 then (if x6 < (x0.length : Int) then ((spec_l07Worth.f ((rd_T40 x0 x6).f0) ((rd_T40 x0 x6).f1) ((rd_T40 x0 x6).f2) ((rd_T40 x0 x6).f3) (rd x1 x6)).bind fun t244 => (spec_l07Sum.l0 k x0 x1 (wrap64 (x5 + t244)) (wrap64 (x6 + 1)))) else (none)) else (spec_l07Sum.l0 k x0 x1 x5 (wrap64 (x6 + 1)))) else (none)) else (some x5)
def spec_l07Sum.f (k : Nat) (l0 : List (S40)) (l1 : List Int) : Option (Int) := spec_l07Sum.l0 k l0 l1 0 0
theorem spec_l07Sum.mono_l : ∀ k, (∀ y0 y1 y2 y3, LeO (spec_l07Sum.l0 k y0 y1 y2 y3) (spec_l07Sum.l0 (k + 1) y0 y1 y2 y3))
 | 0 => fun _ _ _ _ r h => by simp [spec_l07Sum.l0] at h
 | k + 1 => by
  have ih0 := spec_l07Sum.mono_l k
  ·intro y0 y1 y2 y3
   unfold spec_l07Sum.l0
   repeat' first
   | (with_reducible exact ih0 _ _ _ _)
   | (with_reducible exact LeO.refl _)
   | (with_reducible exact LeO.none _)
   | (with_reducible refine LeO.ite ?_ ?_)
   | (with_reducible refine LeO.bind ?_ (fun _ => ?_))
   | exact ih0 _ _ _ _
   | exact LeO.none _
   | refine LeO.ite ?_ ?_
   | refine LeO.bind ?_ (fun _ => ?_)
theorem spec_l07Sum.mono : ∀ a0 a1 k, LeO (spec_l07Sum.f k a0 a1) (spec_l07Sum.f (k + 1) a0 a1) := by
 intro a0 a1 k
 have ih0 := spec_l07Sum.mono_l k
 unfold spec_l07Sum.f
 repeat' first
   | (with_reducible exact ih0 _ _ _ _)
   | (with_reducible exact LeO.refl _)
   | (with_reducible exact LeO.none _)
   | (with_reducible refine LeO.ite ?_ ?_)
   | (with_reducible refine LeO.bind ?_ (fun _ => ?_))
   | exact ih0 _ _ _ _
   | exact LeO.none _
   | refine LeO.ite ?_ ?_
   | refine LeO.bind ?_ (fun _ => ?_)
def spec_l07Sum.T6 : Bool × List (List Nat × List Nat) := (true, [([], []), ([], []), ([], []), ([1, 2], [1, 2]), ([3], [3]), ([], []), ([], []), ([5, 6], [5, 6]), ([7], [7]), ([4, 8], [4, 8]), ([0, 9], [0, 9]), ([10, 9, 0, 1, 2, 3, 4, 5, 6, 7, 8, 9, 10], [0, 10])])
def spec_l07Sum.B6 : List Nat := [0, 0, 0, 6, 14, 0, 0, 96, 224, 510, 1023, 2047]
theorem spec_l07Sum.tab6 : rtab .any (opsOf Try.f31 6) = spec_l07Sum.T6 := by kernel_rfl
theorem spec_l07Sum.bits6 : waitsOk spec_l07Sum.T6.2 spec_l07Sum.B6 = true := by kernel_rfl
set_option maxHeartbeats 8000000 in
set_option maxRecDepth 100000 in
theorem spec_l07Sum.calls (k : Nat) (A0 : Option Addr) (c0 : Nat) (l0 : List (S40)) (A1 : Option Addr) (c1 : Nat) (l1 : List Int) (r : Int) (w : World) (hr0 : Kd.C k40 w A0 l0.length l0) (hc0 : l0.length ≤ c0) (hr1 : Kd.C (Kd.int .i64) w A1 l1.length l1) (hc1 : l1.length ≤ c1) (h : spec_l07Sum.f k l0 l1 = some r) :
  Calls Try.prog 31 #[.slice A0 l0.length c0, .slice A1 l1.length c1] w fun e w' => e = .returned (.int .i64 r) ∧ Below w.heap.size w w' := by
 have hu40 := Try.underlying40
 have HR0 := Aside0.mk hr0
 have HC0 := Aside0.mk hc0
 clear hr0 hc0
 have HR1 := Aside0.mk hr1
 have HC1 := Aside0.mk hc1
 clear hr1 hc1
 have HB := Aside0.mk (Below.refl w.heap.size w)
 have H : (spec_l07Sum.l0 k l0 l1 0 0) = some r := h
 clear h
 have H' := Aside0.mk H
 clear H
 go_enter Try.func31, Try.ntmps31
 go_wp2
 go_loopg [5, 6] k (fun kq v5 v6 w' => ∃ (x5_1 : Int) (x6_1 : Int), v5 = .int .i64 x5_1 ∧ v6 = .int .i64 x6_1 ∧ Aside0 (spec_l07Sum.l0 kq l0 l1 x5_1 x6_1 = some r) ∧ Aside0 (kq ≤ k) ∧ Aside0 (Below w.heap.size w w'))
 case atStart => exact ⟨(0), (0), (by first | rfl | (simp; done) | (simp [*]; done)), (by first | rfl | (simp; done) | (simp [*]; done)), H', ⟨Nat.le_refl _⟩, ⟨by repeat (first | (with_reducible first | exact HB.out | apply below_alloc | apply pw_below_drewN | apply below_drew1) | exact HB.out)⟩⟩
 case round =>
  clear H'
  try clear c1
  try clear p2
  obtain ⟨x5_1, x6_1, rfl, rfl, HA, HK1, HB⟩ := hrel
  cases gk with
  | zero => exact absurd HA.out (by simp [spec_l07Sum.l0])
  | succ k1 =>
   have H := HA.out
   clear HA
   simp only [spec_l07Sum.l0] at H
   by_cases c3 : x6_1 < (l1.length : Int)
   ·rw [if_pos c3] at H
    have c3b0 : decide (x6_1 < (l1.length : Int)) = true := decide_eq_true c3
    clear c3
    by_cases c4 : 0 ≤ x6_1
    ·rw [if_pos c4] at H
     have c4b0 : decide (0 ≤ x6_1) = true := decide_eq_true c4
     clear c4
     by_cases c5 : (rd l1 x6_1) ≥ 0
     ·rw [if_pos c5] at H
      have c5b0 : decide (0 ≤ (rd l1 x6_1)) = true := decide_eq_true c5
      clear c5
      by_cases c6 : x6_1 < (l0.length : Int)
      ·rw [if_pos c6] at H
       have c6b0 : decide (x6_1 < (l0.length : Int)) = true := decide_eq_true c6
       clear c6
       replace H := Option.bind_eq_some_iff.mp H
       obtain ⟨t244, A70, H⟩ := H
       replace H : (spec_l07Sum.l0 k1 l0 l1 (wrap64 (x5_1 + t244)) (wrap64 (x6_1 + 1))) = some r := H
       have A7 := Aside0.mk A70
       clear A70
       have H' := Aside0.mk H
       clear H
       have p241 : 0 ≤ (x6_1 : Int) := of_decide_eq_true (by first | (with_reducible assumption) | assumption)
       have q241 : x6_1 < (l1.length : Int) := of_decide_eq_true (by first | (with_reducible assumption) | assumption)
       obtain ⟨ad241, e241, hx241_0⟩ := Kd.at_int HR1.out x6_1 p241 q241
       cases e241
       replace hx241_0 := (HB.out.cell (World.block_lt_of_cell? w _ hx241_0)).trans hx241_0
       replace p241 := eq_true p241
       replace q241 := eq_true q241
       try go_wp2
       have n0_ := Aside0.mk (below_drew1 HB.out)
       clear HB
       have HB := n0_
       clear n0_
       have p242 : 0 ≤ (x6_1 : Int) := of_decide_eq_true (by first | (with_reducible assumption) | assumption)
       have q242 : x6_1 < (l0.length : Int) := of_decide_eq_true (by first | (with_reducible assumption) | assumption)
       obtain ⟨ad242, e242, hx242_0, hx242_1, hx242_2, hx242_3⟩ := at_T40 HR0.out x6_1 p242 q242
       have hw242_3 := hx242_3
       have hw242_2 := hx242_2
       have hw242_1 := hx242_1
       have hw242_0 := hx242_0
       cases e242
       replace hx242_0 := (HB.out.cell (World.block_lt_of_cell? w _ hx242_0)).trans hx242_0
       replace hx242_1 := (HB.out.cell (World.block_lt_of_cell? w _ hx242_1)).trans hx242_1
       replace hx242_2 := (HB.out.cell (World.block_lt_of_cell? w _ hx242_2)).trans hx242_2
       replace hx242_3 := (HB.out.cell (World.block_lt_of_cell? w _ hx242_3)).trans hx242_3
       replace p242 := eq_true p242
       replace q242 := eq_true q242
       have p243 : 0 ≤ (x6_1 : Int) := of_decide_eq_true (by first | (with_reducible assumption) | assumption)
       have q243 : x6_1 < (l1.length : Int) := of_decide_eq_true (by first | (with_reducible assumption) | assumption)
       obtain ⟨ad243, e243, hx243_0⟩ := Kd.at_int HR1.out x6_1 p243 q243
       have hw243_0 := hx243_0
       obtain rfl : ad241 = ad243 := (by injection e243)
       replace hx243_0 := (HB.out.cell (World.block_lt_of_cell? w _ hx243_0)).trans hx243_0
       replace p243 := eq_true p243
       replace q243 := eq_true q243
       refine start_ (n := 12) (S := fun w' => w'.cell? (ad242.add ((x6_1).toNat * 4)) = some (.int .i16 ((rd_T40 l0 x6_1).f0)) ∧ w'.cell? ⟨(ad242.add ((x6_1).toNat * 4)).block, (ad242.add ((x6_1).toNat * 4)).off + 1, none⟩ = some (.int .i16 ((rd_T40 l0 x6_1).f1)) ∧ w'.cell? ⟨(ad242.add ((x6_1).toNat * 4)).block, (ad242.add ((x6_1).toNat * 4)).off + 2, none⟩ = some (.int .i16 ((rd_T40 l0 x6_1).f2)) ∧ w'.cell? ⟨(ad242.add ((x6_1).toNat * 4)).block, (ad242.add ((x6_1).toNat * 4)).off + 3, none⟩ = some (.int .i16 ((rd_T40 l0 x6_1).f3)) ∧ w'.cell? (ad241.add (x6_1).toNat) = some (.int .i64 (rd l1 x6_1))) (ds := []) #[false, false, false, false, false, false, false, false, false, false, false, false] (by kernel_rfl) rfl rfl ⟨((HB.out.cell (World.block_lt_of_cell? w _ hw242_0)).trans hw242_0), ((HB.out.cell (World.block_lt_of_cell? w _ hw242_1)).trans hw242_1), ((HB.out.cell (World.block_lt_of_cell? w _ hw242_2)).trans hw242_2), ((HB.out.cell (World.block_lt_of_cell? w _ hw242_3)).trans hw242_3), ((HB.out.cell (World.block_lt_of_cell? w _ hw243_0)).trans hw243_0)⟩ (fun hHeld => ?_); refine with_tabW spec_l07Sum.tab6 spec_l07Sum.bits6 (fun HT_ HW_ => ?_)
       generalize wr.drew = w8 at HB hx242_0 hx242_1 hx242_2 hx242_3 hx243_0 hHeld ⊢
       refine pure_ (i := 0) (N := some 18) (v := ?_) (a' := ?_) #[true, false, false, false, false, false, false, false, false, false, false, false] rfl rfl (any_of HT_.out (by kernel_rfl)) (fun _ _ _ h => h) (Or.inl ⟨by rfl, ?_⟩) ?_ ?_
       rotate_left
       ·intro w'
        go_simp
        with_reducible rfl
       rotate_left
       ·simp only [Act.put, List.setIfInBounds_toArray, List.set_cons_zero, List.set_cons_succ, i64_w, i32_w]
        rfl
       refine pure_ (i := 1) (N := some 19) (v := ?_) (a' := ?_) #[true, true, false, false, false, false, false, false, false, false, false, false] rfl rfl (any_of HT_.out (by kernel_rfl)) (fun _ _ _ h => h) (Or.inl ⟨by rfl, ?_⟩) ?_ ?_
       rotate_left
       ·intro w'
        go_simp
        with_reducible rfl
       rotate_left
       ·simp only [Act.put, List.setIfInBounds_toArray, List.set_cons_zero, List.set_cons_succ, i64_w, i32_w]
        rfl
       refine pure_ (i := 2) (N := some 20) (v := ?_) (a' := ?_) #[true, true, true, false, false, false, false, false, false, false, false, false] rfl rfl (any_of HT_.out (by kernel_rfl)) (fun _ _ _ h => h) (Or.inl ⟨by rfl, ?_⟩) ?_ ?_
       rotate_left
       ·intro w'
        go_simp
        with_reducible rfl
       rotate_left
       ·simp only [Act.put, List.setIfInBounds_toArray, List.set_cons_zero, List.set_cons_succ, i64_w, i32_w]
        rfl
       refine pure_ (i := 3) (N := some 21) (v := ?_) (a' := ?_) #[true, true, true, true, false, false, false, false, false, false, false, false] rfl rfl (any_of HT_.out (by kernel_rfl)) (fun _ _ _ h => h) (Or.inl ⟨by rfl, ?_⟩) ?_ ?_
       rotate_left
       ·intro w'
        go_simp
        with_reducible rfl
       rotate_left
       ·simp only [Act.put, List.setIfInBounds_toArray, List.set_cons_zero, List.set_cons_succ, i64_w, i32_w]
        rfl
       refine pure_ (i := 5) (N := some 23) (v := ?_) (a' := ?_) #[true, true, true, true, false, true, false, false, false, false, false, false] rfl rfl (any_of HT_.out (by kernel_rfl)) (fun _ _ _ h => h) (Or.inl ⟨by rfl, ?_⟩) ?_ ?_
       rotate_left
       ·intro w'
        go_simp
        with_reducible rfl
       rotate_left
       ·simp only [Act.put, List.setIfInBounds_toArray, List.set_cons_zero, List.set_cons_succ, i64_w, i32_w]
        rfl
       refine pure_ (i := 6) (N := some 24) (v := ?_) (a' := ?_) #[true, true, true, true, false, true, true, false, false, false, false, false] rfl rfl (any_of HT_.out (by kernel_rfl)) (fun _ _ _ h => h) (Or.inl ⟨by rfl, ?_⟩) ?_ ?_
       rotate_left
       ·intro w'
        go_simp
        with_reducible rfl
       rotate_left
       ·simp only [Act.put, List.setIfInBounds_toArray, List.set_cons_zero, List.set_cons_succ, i64_w, i32_w]
        rfl
       refine pure_ (i := 7) (N := some 25) (v := ?_) (a' := ?_) #[true, true, true, true, false, true, true, true, false, false, false, false] rfl rfl (any_of HT_.out (by kernel_rfl)) (fun _ _ _ h => h) (Or.inl ⟨by rfl, ?_⟩) ?_ ?_
       rotate_left
       ·intro w'
        go_simp
        with_reducible rfl
       rotate_left
       ·simp only [Act.put, List.setIfInBounds_toArray, List.set_cons_zero, List.set_cons_succ, i64_w, i32_w]
        rfl
       refine take_ (i := 4) (N := some 22) (v := ?_) (a' := ?_) #[true, true, true, true, true, true, true, true, false, false, false, false] rfl rfl (take_ofW HT_.out HW_.out (by kernel_rfl)) (fun _ _ _ h => h) (Or.inl ⟨by rfl, ?_⟩) hHeld ?_ ?_
       rotate_left
       ·rintro w' ⟨s0, s1, s2, s3, s4⟩
        go_simp
        with_reducible rfl
       rotate_left
       ·simp only [Act.put, List.setIfInBounds_toArray, List.set_cons_zero, List.set_cons_succ, i64_w, i32_w]
        rfl
       refine take_ (i := 8) (N := some 26) (v := ?_) (a' := ?_) #[true, true, true, true, true, true, true, true, true, false, false, false] rfl rfl (take_ofW HT_.out HW_.out (by kernel_rfl)) (fun _ _ _ h => h) (Or.inl ⟨by rfl, ?_⟩) hHeld ?_ ?_
       rotate_left
       ·rintro w' ⟨s0, s1, s2, s3, s4⟩
        go_simp
        with_reducible rfl
       rotate_left
       ·simp only [Act.put, List.setIfInBounds_toArray, List.set_cons_zero, List.set_cons_succ, i64_w, i32_w]
        rfl
       refine one_ (i := 9) (N := some 27) #[true, true, true, true, true, true, true, true, true, true, false, false] rfl rfl (one_of HT_.out (by kernel_rfl)) (by decide) (fun K hK => ?_)
       refine goes_ Try.func35 (by kernel_rfl) rfl #[.agg #[.int .i16 ((rd_T40 l0 x6_1).f0), .int .i16 ((rd_T40 l0 x6_1).f1), .int .i16 ((rd_T40 l0 x6_1).f2), .int .i16 ((rd_T40 l0 x6_1).f3)], .int .i64 (rd l1 x6_1)] (by rfl) rfl rfl (by (try simp only [List.map_toArray, List.map_cons, List.map_nil]); first | done | rfl | (simp only [List.length_drop, List.length_take]; rfl)) ?_
       with_reducible refine (spec_l07Worth.calls ((rd_T40 l0 x6_1).f0) ((rd_T40 l0 x6_1).f1) ((rd_T40 l0 x6_1).f2) ((rd_T40 l0 x6_1).f3) (rd l1 x6_1) t244 _ A7.out).mono ?_
       rintro e w9 ⟨rfl, hb⟩
       refine ⟨_, rfl, ?_⟩
       have n0_ := Aside0.mk (below_step (by repeat (first | (with_reducible first | exact HB.out | apply below_alloc | apply pw_below_drewN | apply below_drew1) | exact HB.out)) hb)
       clear HB
       have HB := n0_
       clear n0_
       (try clear hb)
       (try clear hb2)
       (try clear hk)
       (try clear hi)
       refine hK.out _ _ ⟨((HB.out.cell (World.block_lt_of_cell? w _ hw242_0)).trans hw242_0), ((HB.out.cell (World.block_lt_of_cell? w _ hw242_1)).trans hw242_1), ((HB.out.cell (World.block_lt_of_cell? w _ hw242_2)).trans hw242_2), ((HB.out.cell (World.block_lt_of_cell? w _ hw242_3)).trans hw242_3), ((HB.out.cell (World.block_lt_of_cell? w _ hw243_0)).trans hw243_0)⟩ (fun hHeld => ?_)
       clear hK K
       refine norm_ (a' := ?_) ?_ ?_
       rotate_left
       ·show Act.put _ (some 27) _ = _
        simp only [Act.put, List.setIfInBounds_toArray, List.set_cons_zero, List.set_cons_succ, i64_w, i32_w]
        rfl
       refine pure_ (i := 10) (N := some 28) (v := ?_) (a' := ?_) #[true, true, true, true, true, true, true, true, true, true, true, false] rfl rfl (any_of HT_.out (by kernel_rfl)) (fun _ _ _ h => h) (Or.inl ⟨by rfl, ?_⟩) ?_ ?_
       rotate_left
       ·intro w'
        go_simp
        with_reducible rfl
       rotate_left
       ·simp only [Act.put, List.setIfInBounds_toArray, List.set_cons_zero, List.set_cons_succ, i64_w, i32_w]
        rfl
       refine pure_ (i := 11) (N := some 5) (v := ?_) (a' := ?_) #[true, true, true, true, true, true, true, true, true, true, true, true] rfl rfl (any_of HT_.out (by kernel_rfl)) (fun _ _ _ h => h) (Or.inl ⟨by rfl, ?_⟩) ?_ ?_
       rotate_left
       ·intro w'
        go_simp
        with_reducible rfl
       rotate_left
       ·simp only [Act.put, List.setIfInBounds_toArray, List.set_cons_zero, List.set_cons_succ, i64_w, i32_w]
        rfl
       refine done_ (done_of HT_.out (by kernel_rfl)) ?_
       try go_wp2
       go_roundg k1
       case measure => have := HK1.out; omega
       case rel => exact ⟨(wrap64 (x5_1 + t244)), (wrap64 (x6_1 + 1)), (by first | rfl | (simp; done) | (simp [*]; done)), (by first | rfl | (simp; done) | (simp [*]; done)), H', ⟨by have := HK1.out; omega⟩, ⟨by repeat (first | (with_reducible first | exact HB.out | apply below_alloc | apply pw_below_drewN | apply below_drew1) | exact HB.out)⟩⟩
      ·rw [if_neg c6] at H
       exact absurd H (by simp)
     ·rw [if_neg c5] at H
      have c5b0 : decide (0 ≤ (rd l1 x6_1)) = false := decide_eq_false c5
      clear c5
      have H' := Aside0.mk H
      clear H
      have p241 : 0 ≤ (x6_1 : Int) := of_decide_eq_true (by first | (with_reducible assumption) | assumption)
      have q241 : x6_1 < (l1.length : Int) := of_decide_eq_true (by first | (with_reducible assumption) | assumption)
      obtain ⟨ad241, e241, hx241_0⟩ := Kd.at_int HR1.out x6_1 p241 q241
      cases e241
      replace hx241_0 := (HB.out.cell (World.block_lt_of_cell? w _ hx241_0)).trans hx241_0
      replace p241 := eq_true p241
      replace q241 := eq_true q241
      go_wp2
      go_roundg k1
      case measure => have := HK1.out; omega
      case rel => exact ⟨(x5_1), (wrap64 (x6_1 + 1)), (by first | rfl | (simp; done) | (simp [*]; done)), (by first | rfl | (simp; done) | (simp [*]; done)), H', ⟨by have := HK1.out; omega⟩, ⟨by repeat (first | (with_reducible first | exact HB.out | apply below_alloc | apply pw_below_drewN | apply below_drew1) | exact HB.out)⟩⟩
    ·rw [if_neg c4] at H
     exact absurd H (by simp)
   ·rw [if_neg c3] at H
    have c3b0 : decide (x6_1 < (l1.length : Int)) = false := decide_eq_false c3
    clear c3
    obtain rfl := Option.some.inj H
    go_wp2
    go_ret
    exact ⟨by first | rfl | (simp [errW_none, errW_some] <;> rfl) | (simp [*, errW_none, errW_some] <;> rfl), by repeat (first | (with_reducible first | exact HB.out | apply below_alloc | apply pw_below_drewN | apply below_drew1) | exact HB.out)⟩

end Go.Proofs.Ytokeeplkbgdokaa.Pq

/- What the reference's search over days computes, as plain functions of numbers. -/
namespace Go.Proofs.Ytokeeplkbgdokaa
open Go.RowKit Go.Proofs.YtokeeplkbgdokaaW.PrintWords Go.Proofs.YtokeeplkbgdokaaW.PrintLast Go.Proofs.YtokeeplkbgdokaaW.PrintMore Go.Proofs.Ytokeeplkbgdokaa.Pq
set_option linter.unusedSimpArgs false
set_option linter.unusedVariables false

/-- What a plot is worth on a day. -/
def pw (x : S40) (d : Int) : Int := if 0 ≤ d - x.f1 ∧ d - x.f1 ≤ x.f2 then (if x.f0 - x.f3 * (d - x.f1) > 0 then x.f0 - x.f3 * (d - x.f1) else 0) else 0
theorem plotOk_iff (x : S40) : plotOk x = true ↔ 0 ≤ x.f0 ∧ x.f0 ≤ 1000 ∧ 0 ≤ x.f1 ∧ x.f1 ≤ 20 ∧ 0 ≤ x.f2 ∧ x.f2 ≤ 20 ∧ 0 ≤ x.f3 ∧ x.f3 ≤ 1000 := by simp [plotOk]
theorem pw_nonneg (x : S40) (d : Int) : 0 ≤ pw x d := by
  unfold pw
  split
  · split <;> omega
  · exact Int.le_refl 0
theorem mul_late (a b : Int) (h0 : 0 ≤ a) (h1 : a ≤ 1000) (h2 : 0 ≤ b) (h3 : b ≤ 20) : 0 ≤ a * b ∧ a * b ≤ 20000 := by
  constructor
  · exact Int.mul_nonneg h0 h2
  · have := Int.mul_le_mul h1 h3 h2 (by omega)
    omega
theorem pw_le (x : S40) (d : Int) (h : plotOk x = true) : pw x d ≤ 1000 := by
  rw [plotOk_iff] at h
  obtain ⟨_, _, _, _, _, _, _, _⟩ := h
  unfold pw
  split
  case isTrue hs =>
    obtain ⟨h0, _⟩ := mul_late x.f3 (d - x.f1) (by omega) (by omega) hs.1 (by omega)
    split <;> omega
  case isFalse => omega
theorem spec_in_f (a b c : Int) : spec_l00In.f a b c = some (decide (b ≤ a ∧ a ≤ c)) := by
  simp only [spec_l00In.f]
  by_cases h1 : a ≥ b
  · rw [if_pos h1]
    by_cases h2 : a ≤ c
    · rw [decide_eq_true h2, decide_eq_true ⟨h1, h2⟩]
    · rw [decide_eq_false h2, decide_eq_false (fun h => h2 h.2)]
  · rw [if_neg h1, decide_eq_false (fun h => h1 h.1)]
theorem spec_max_f (a b : Int) : spec_l00Max.f a b = some (if a > b then a else b) := by
  unfold spec_l00Max.f
  split <;> rfl
theorem spec_worth_f (x : S40) (d : Int) (h : plotOk x = true) (h0 : -1 ≤ d) (h1 : d ≤ 1000) : spec_l07Worth.f x.f0 x.f1 x.f2 x.f3 d = some (pw x d) := by
  rw [plotOk_iff] at h
  obtain ⟨_, _, _, _, _, _, _, _⟩ := h
  have e1 : wrap64 x.f1 = x.f1 := by unfold wrap64; omega
  have e2 : wrap64 x.f2 = x.f2 := by unfold wrap64; omega
  have e3 : wrap64 x.f3 = x.f3 := by unfold wrap64; omega
  have e0 : wrap64 x.f0 = x.f0 := by unfold wrap64; omega
  have e4 : wrap64 (d - x.f1) = d - x.f1 := by unfold wrap64; omega
  unfold spec_l07Worth.f pw
  rw [e1, e4, e2, spec_in_f]
  simp only [Option.bind_some]
  by_cases hs : 0 ≤ d - x.f1 ∧ d - x.f1 ≤ x.f2
  · obtain ⟨g0, g1⟩ := mul_late x.f3 (d - x.f1) (by omega) (by omega) hs.1 (by omega)
    have e5 : wrap64 (x.f3 * (d - x.f1)) = x.f3 * (d - x.f1) := by unfold wrap64; omega
    have e6 : wrap64 (x.f0 - x.f3 * (d - x.f1)) = x.f0 - x.f3 * (d - x.f1) := by unfold wrap64; omega
    rw [decide_eq_true hs, if_pos rfl, if_pos hs, e3, e5, e0, e6, spec_max_f]
    simp only [Option.bind_some]
    by_cases hp : x.f0 - x.f3 * (d - x.f1) > 0
    · rw [if_pos hp, if_neg (by omega)]
    · rw [if_neg hp]
      split <;> first | rfl | (congr 1; omega)
  · rw [decide_eq_false hs, if_neg (by simp), if_neg hs]
/-- The worth of some plots, told by the first i bits of a number, on a day. -/
def bitW (rest : List S40) (d : Int) (T : Nat) : Nat → Int
  | 0 => 0
  | i + 1 => bitW rest d T i + (if T.testBit i then pw (rest.getD i z40) d else 0)
theorem bitW_zero (rest) (d : Int) (i : Nat) : bitW rest d 0 i = 0 := by
  induction i with
  | zero => rfl
  | succ i ih => rw [bitW, ih]; simp
theorem getD_ok (rest : List S40) (h : ∀ x ∈ rest, plotOk x = true) (i : Nat) : plotOk (rest.getD i z40) = true := by
  by_cases hi : i < rest.length
  · rw [pl_getD _ _ hi]; exact h _ (List.getElem_mem hi)
  · rw [List.getD_eq_getElem?_getD, List.getElem?_eq_none (by omega)]; rfl
theorem bitW_bound (rest) (h : ∀ x ∈ rest, plotOk x = true) (d : Int) (T i : Nat) : 0 ≤ bitW rest d T i ∧ bitW rest d T i ≤ 1000 * i := by
  induction i with
  | zero => exact ⟨Int.le_refl 0, by simp [bitW]⟩
  | succ i ih =>
    have h1 := pw_nonneg (rest.getD i z40) d
    have h2 := pw_le (rest.getD i z40) d (getD_ok rest h i)
    rw [bitW]
    split <;> omega
/-- The best of a day, the first T sets of plots having been tried. -/
def tryB (W : Nat → Int) (nb : Nat → Int) (fr : Int) (nx : Nat → Int) : Nat → Nat → Int
  | 0, s => nx s
  | T + 1, s => if (nb (T + 1) ≤ fr ∧ W (T + 1) ≠ 0) ∧ ndiff (T + 1) s = 0 then (if tryB W nb fr nx T s > W (T + 1) + nx (ndiff s (T + 1)) then tryB W nb fr nx T s else W (T + 1) + nx (ndiff s (T + 1))) else tryB W nb fr nx T s
theorem tryB_bound (W nb fr nx) (a b : Int) (hW : ∀ T, 0 ≤ W T ∧ W T ≤ a) (hn : ∀ s, 0 ≤ nx s ∧ nx s ≤ b) (T s : Nat) : 0 ≤ tryB W nb fr nx T s ∧ tryB W nb fr nx T s ≤ a + b := by
  induction T with
  | zero => have := hn s; have := hW 0; simp only [tryB]; omega
  | succ T ih =>
    have := hn (ndiff s (T + 1))
    have := hW (T + 1)
    rw [tryB]
    split
    · split <;> omega
    · exact ih
theorem ndiff_lt (T s : Nat) (h : s < T) : ndiff T s ≠ 0 := by
  intro h0
  rw [ndiff_zero] at h0
  have : T &&& s ≤ s := Nat.and_le_right
  omega
theorem tryB_small (W nb fr nx) (T s : Nat) (h : s < T + 1) : tryB W nb fr nx (T + 1) s = tryB W nb fr nx T s := by
  rw [tryB, if_neg]
  intro hh
  exact ndiff_lt _ _ h hh.2
/-- How many hands are free on a day. -/
def freeOn (h D : Int) (p : List Int) (d : Nat) : Int := (if (d : Int) < D then h else 0) - dayCount p d
def nb6 (T : Nat) : Int := (nbits T 6 : Nat)
/-- The best behind a day, the last j days having been tried. -/
def dayB (rest : List S40) (fr : Nat → Int) (D : Nat) : Nat → Nat → Int
  | 0, _ => 0
  | j + 1, s => if s < 2 ^ rest.length then tryB (fun T => bitW rest ((D - 1 - j : Nat) : Int) T rest.length) nb6 (fr (D - 1 - j)) (dayB rest fr D j) (2 ^ rest.length - 1) s else 0
theorem dayB_bound (rest) (hok : ∀ x ∈ rest, plotOk x = true) (hl : rest.length ≤ 6) (fr : Nat → Int) (D j s : Nat) : 0 ≤ dayB rest fr D j s ∧ dayB rest fr D j s ≤ 6000 * j := by
  induction j generalizing s with
  | zero => exact ⟨Int.le_refl 0, by simp [dayB]⟩
  | succ j ih =>
    rw [dayB]
    split
    · have := tryB_bound (fun T => bitW rest ((D - 1 - j : Nat) : Int) T rest.length) nb6 (fr (D - 1 - j)) (dayB rest fr D j) 6000 (6000 * j) (fun T => by have := bitW_bound rest hok ((D - 1 - j : Nat) : Int) T rest.length; omega) ih (2 ^ rest.length - 1) s
      omega
    · omega
/-- The sum of the worths of a plan. -/
def planSum : List S40 → List Int → Int
  | x :: l, d :: p => (if 0 ≤ d then pw x d else 0) + planSum l p
  | _, _ => 0
theorem planSum_bound (l) (hok : ∀ x ∈ l, plotOk x = true) (p : List Int) : 0 ≤ planSum l p ∧ planSum l p ≤ 1000 * l.length := by
  induction l generalizing p with
  | nil => simp [planSum]
  | cons x l ih =>
    cases p with
    | nil => simp [planSum]; omega
    | cons d p =>
      have h1 := ih (fun y hy => hok y (by simp [hy])) p
      have h2 := pw_nonneg x d
      have h3 := pw_le x d (hok x (by simp))
      simp only [planSum, List.length_cons]
      split <;> omega
/-- What the best plan is worth that begins as told. -/
def tryV (l : List S40) (h : Int) (D : Nat) (p : List Int) : Int :=
  dayB (l.drop p.length) (freeOn h D p) D D (2 ^ (l.drop p.length).length - 1) + planSum (l.take p.length) p
def tryPre (l : List S40) (h D : Int) (p : List Int) : Prop := l.length ≤ 6 ∧ (∀ x ∈ l, plotOk x = true) ∧ 0 ≤ D ∧ D ≤ 20 ∧ 0 ≤ h ∧ h ≤ 3 ∧ p.length ≤ l.length ∧ ∀ d ∈ p, -1 ≤ d ∧ d ≤ 19
/-- 64 numbers. -/
def vec (f : Nat → Int) : List Int := (List.range 64).map f
def vec20 (f : Nat → Int) : List Int := (List.range 20).map f
theorem vec_length (f) : (vec f).length = 64 := by simp [vec]
theorem vec20_length (f) : (vec20 f).length = 20 := by simp [vec20]
theorem vec_at (f) (i : Nat) (h : i < 64) : (vec f).getD i 0 = f i := by simp [vec, List.getD, h]
theorem vec20_at (f) (i : Nat) (h : i < 20) : (vec20 f).getD i 0 = f i := by simp [vec20, List.getD, h]
theorem vec_congr (f g) (h : ∀ i, i < 64 → f i = g i) : vec f = vec g := List.map_congr_left (fun i hi => h i (List.mem_range.1 hi))
theorem vec20_congr (f g) (h : ∀ i, i < 20 → f i = g i) : vec20 f = vec20 g := List.map_congr_left (fun i hi => h i (List.mem_range.1 hi))
theorem vec_set (f) (i : Nat) (v : Int) : (vec f).set i v = vec (fun s => if s = i then v else f s) := by
  apply List.ext_getElem
  · simp [vec]
  · intro j h1 h2
    rw [List.getElem_set]
    simp only [vec, List.getElem_map, List.getElem_range]
    by_cases h : i = j
    · rw [if_pos h, if_pos h.symm]
    · rw [if_neg h, if_neg (fun e => h e.symm)]
theorem vec20_set (f) (i : Nat) (v : Int) : (vec20 f).set i v = vec20 (fun s => if s = i then v else f s) := by
  apply List.ext_getElem
  · simp [vec20]
  · intro j h1 h2
    rw [List.getElem_set]
    simp only [vec20, List.getElem_map, List.getElem_range]
    by_cases h : i = j
    · rw [if_pos h, if_pos h.symm]
    · rw [if_neg h, if_neg (fun e => h e.symm)]
theorem vec_zero : List.replicate 64 (0 : Int) = vec (fun _ => 0) := rfl
theorem vec20_zero : List.replicate 20 (0 : Int) = vec20 (fun _ => 0) := rfl
theorem sum_loop (l : List S40) (hok : ∀ x ∈ l, plotOk x = true) (p : List Int) (hp : ∀ d ∈ p, -1 ≤ d ∧ d ≤ 19) (hl : p.length ≤ l.length) (hn : l.length ≤ 6) (d : Nat) : ∀ (k i : Nat) (s : Int), i ≤ p.length → p.length - i = d → d < k → 0 ≤ s → s ≤ 1000 * (i : Int) →
    spec_l07Sum.l0 k l p s (i : Int) = some (s + planSum (l.drop i) (p.drop i)) := by
  induction d with
  | zero =>
    intro k i s h1 h2 h3 _ _
    obtain ⟨k, rfl⟩ : ∃ m, k = m + 1 := ⟨k - 1, by omega⟩
    rw [spec_l07Sum.l0, if_neg (by omega), List.drop_of_length_le (l := p) (by omega)]
    cases (l.drop i) <;> simp [planSum]
  | succ d ih =>
    intro k i s h1 h2 h3 h4 h5
    obtain ⟨k, rfl⟩ : ∃ m, k = m + 1 := ⟨k - 1, by omega⟩
    have hlt : i < p.length := by omega
    have hlt2 : i < l.length := by omega
    have hd := hp p[i] (List.getElem_mem hlt)
    have er : rd p (i : Int) = p[i] := by simp [rd, hlt]
    have hx := hok l[i] (List.getElem_mem hlt2)
    have b1 := pw_nonneg l[i] p[i]
    have b2 := pw_le l[i] p[i] hx
    rw [List.drop_eq_getElem_cons hlt, List.drop_eq_getElem_cons hlt2, planSum]
    rw [spec_l07Sum.l0, if_pos (by omega), if_pos (by omega), er]
    by_cases hc : p[i] ≥ 0
    · rw [if_pos hc, if_pos (by omega), pl_rd l i hlt2, spec_worth_f _ _ hx (by omega) (by omega)]
      simp only [Option.bind_some]
      have e1 : wrap64 (s + pw l[i] p[i]) = s + pw l[i] p[i] := by unfold wrap64; omega
      rw [e1, pl_next i p.length hlt (by omega), ih k (i + 1) _ (by omega) (by omega) (by omega) (by omega) (by omega), if_pos hc, Int.add_assoc]
    · rw [if_neg hc, pl_next i p.length hlt (by omega), ih k (i + 1) s (by omega) (by omega) (by omega) h4 (by omega), if_neg (by omega), Int.zero_add]
theorem spec_sum_f (l : List S40) (hok : ∀ x ∈ l, plotOk x = true) (p : List Int) (hp : ∀ d ∈ p, -1 ≤ d ∧ d ≤ 19) (hl : p.length ≤ l.length) (hn : l.length ≤ 6) (k : Nat) (hk : p.length < k) : spec_l07Sum.f k l p = some (planSum l p) := by
  have := sum_loop l hok p hp hl hn p.length k 0 0 (by omega) (by omega) hk (by omega) (by omega)
  simpa [spec_l07Sum.f] using this
end Go.Proofs.Ytokeeplkbgdokaa

/- The best plan, by sets and days: what both searches compute is the greatest worth of a plan. Plain lemmas. -/
namespace Go.Proofs.Ytokeeplkbgdokaa
open Go.RowKit Go.Proofs.YtokeeplkbgdokaaW.PrintWords Go.Proofs.Ytokeeplkbgdokaa.Pq
set_option linter.unusedVariables false

/-- The worth of the first n plots, each on its day. -/
def fsum (rest : List S40) (r : Nat → Int) : Nat → Int
  | 0 => 0
  | i + 1 => fsum rest r i + (if 0 ≤ r i then pw (rest.getD i z40) (r i) else 0)
/-- How many of the first n have this day. -/
def cnt (r : Nat → Int) (d : Int) : Nat → Nat
  | 0 => 0
  | i + 1 => cnt r d i + (if r i = d then 1 else 0)
/-- The set of those of the first n for which something is so. -/
def maskOf (P : Nat → Bool) : Nat → Nat
  | 0 => 0
  | i + 1 => maskOf P i + (if P i then 2 ^ i else 0)
theorem maskOf_lt (P : Nat → Bool) (n : Nat) : maskOf P n < 2 ^ n := by
  induction n with
  | zero => simp [maskOf]
  | succ n ih => rw [maskOf, Nat.pow_succ]; split <;> omega
theorem maskOf_testBit (P : Nat → Bool) (n i : Nat) : (maskOf P n).testBit i = (decide (i < n) && P i) := by
  induction n with
  | zero => simp [maskOf]
  | succ n ih =>
    rw [maskOf]
    by_cases hp : P n = true
    · rw [if_pos hp]
      have hl := maskOf_lt P n
      by_cases hi : i = n
      · subst hi
        rw [Nat.add_comm, Nat.testBit_two_pow_add_eq, ih]
        simp [hp]
      · rcases Nat.lt_or_ge i n with h | h
        · rw [Nat.add_comm, Nat.testBit_two_pow_add_gt h, ih]
          simp [h, Nat.lt_succ_of_lt h]
        · have h2 : n < i := by omega
          have : maskOf P n + 2 ^ n < 2 ^ i := by
            have := Nat.pow_le_pow_right (show 0 < 2 by decide) (show n + 1 ≤ i from h2)
            rw [Nat.pow_succ] at this
            omega
          rw [Nat.testBit_lt_two_pow this]
          simp; omega
    · rw [if_neg hp, Nat.add_zero, ih]
      by_cases hi : i = n
      · subst hi; simp [hp]
      · rw [show decide (i < n + 1) = decide (i < n) from by congr 1; simp; omega]
theorem nbits_mask (P : Nat → Bool) (n m : Nat) (h : n ≤ m) : nbits (maskOf P n) m = nbits (maskOf P n) n := by
  induction m with
  | zero => rw [Nat.le_zero.1 h]
  | succ m ih =>
    rcases Nat.lt_or_ge m n with h1 | h1
    · rw [show n = m + 1 by omega]
    · rw [nbits, ih h1, maskOf_testBit]
      simp; omega
theorem nbits_lt (T n m : Nat) (hT : T < 2 ^ n) (h : n ≤ m) : nbits T m = nbits T n := by
  induction m with
  | zero => rw [Nat.le_zero.1 h]
  | succ m ih =>
    rcases Nat.lt_or_ge m n with h1 | h1
    · rw [show n = m + 1 by omega]
    · rw [nbits, ih h1, Nat.testBit_lt_two_pow (Nat.lt_of_lt_of_le hT (Nat.pow_le_pow_right (by decide) h1))]
      simp
theorem nbits_day (r : Nat → Int) (d : Int) (T n : Nat) (h : ∀ i, i < n → T.testBit i = decide (r i = d)) : nbits T n = cnt r d n := by
  induction n with
  | zero => rfl
  | succ n ih =>
    rw [nbits, cnt, ih (fun i hi => h i (by omega)), h n (by omega)]
    simp
/-- Some plots moved to a day. -/
def moveTo (T : Nat) (d : Int) (r : Nat → Int) : Nat → Int := fun i => if T.testBit i then d else r i
/-- What is on a day, taken away. -/
def dropDay (d : Int) (r : Nat → Int) : Nat → Int := fun i => if r i = d then -1 else r i
theorem fsum_split (rest) (d : Int) (hd : 0 ≤ d) (T : Nat) (r r' : Nat → Int) (n : Nat) (h : ∀ i, i < n → (T.testBit i = true → r i = d ∧ r' i = -1) ∧ (T.testBit i = false → r i = r' i)) : fsum rest r n = bitW rest d T n + fsum rest r' n := by
  induction n with
  | zero => rfl
  | succ n ih =>
    rw [fsum, fsum, bitW, ih (fun i hi => h i (by omega))]
    obtain ⟨h1, h2⟩ := h n (by omega)
    cases hb : T.testBit n with
    | true =>
      obtain ⟨e1, e2⟩ := h1 hb
      rw [e1, e2, if_pos hd, if_pos rfl, if_neg (by decide)]
      omega
    | false =>
      rw [h2 hb]
      simp
      omega
theorem cnt_congr (r r' : Nat → Int) (d : Int) (n : Nat) (h : ∀ i, i < n → (r i = d ↔ r' i = d)) : cnt r d n = cnt r' d n := by
  induction n with
  | zero => rfl
  | succ n ih =>
    rw [cnt, cnt, ih (fun i hi => h i (by omega))]
    have := h n (by omega)
    by_cases h1 : r n = d
    · rw [if_pos h1, if_pos (this.1 h1)]
    · rw [if_neg h1, if_neg (fun e => h1 (this.2 e))]
theorem fsum_congr (rest) (r r' : Nat → Int) (n : Nat) (h : ∀ i, i < n → r i = r' i) : fsum rest r n = fsum rest r' n := by
  induction n with
  | zero => rfl
  | succ n ih => rw [fsum, fsum, ih (fun i hi => h i (by omega)), h n (by omega)]
/-- Days that may be told: none, or one from lo on and below hi; no day more often than there are hands. -/
def Adm (fr : Nat → Int) (n : Nat) (lo hi : Nat) (r : Nat → Int) : Prop :=
  (∀ i, i < n → r i = -1 ∨ ((lo : Int) ≤ r i ∧ r i < (hi : Int))) ∧ ∀ d : Nat, lo ≤ d → d < hi → ((cnt r d n : Nat) : Int) ≤ fr d
/-- Only plots of a set are taken. -/
def Within (n s : Nat) (r : Nat → Int) : Prop := ∀ i, i < n → 0 ≤ r i → s.testBit i = true
theorem cnt_zero_of (r : Nat → Int) (d : Int) (n : Nat) (h : ∀ i, i < n → r i ≠ d) : cnt r d n = 0 := by
  induction n with
  | zero => rfl
  | succ n ih => rw [cnt, ih (fun i hi => h i (by omega)), if_neg (h n (by omega))]
theorem tryB_ge (W nb fr nx) (T s : Nat) : nx s ≤ tryB W nb fr nx T s := by
  induction T with
  | zero => exact Int.le_refl _
  | succ T ih =>
    rw [tryB]
    split
    · split <;> omega
    · exact ih
theorem tryB_ge_at (W : Nat → Int) (nb : Nat → Int) (fr : Int) (nx : Nat → Int) (T0 T s : Nat) (h1 : 1 ≤ T0) (h2 : T0 ≤ T) (hc : nb T0 ≤ fr ∧ W T0 ≠ 0) (hd : ndiff T0 s = 0) : W T0 + nx (ndiff s T0) ≤ tryB W nb fr nx T s := by
  induction T with
  | zero => omega
  | succ T ih =>
    by_cases h : T0 = T + 1
    · subst h
      rw [tryB, if_pos ⟨hc, hd⟩]
      split <;> omega
    · have := ih (by omega)
      rw [tryB]
      split
      · split <;> omega
      · exact this
theorem tryB_from (W : Nat → Int) (nb : Nat → Int) (fr : Int) (nx : Nat → Int) (T s : Nat) : tryB W nb fr nx T s = nx s ∨ ∃ T0, 1 ≤ T0 ∧ T0 ≤ T ∧ (nb T0 ≤ fr ∧ W T0 ≠ 0) ∧ ndiff T0 s = 0 ∧ tryB W nb fr nx T s = W T0 + nx (ndiff s T0) := by
  induction T with
  | zero => exact .inl rfl
  | succ T ih =>
    have ih' : tryB W nb fr nx T s = nx s ∨ ∃ T0, 1 ≤ T0 ∧ T0 ≤ T + 1 ∧ (nb T0 ≤ fr ∧ W T0 ≠ 0) ∧ ndiff T0 s = 0 ∧ tryB W nb fr nx T s = W T0 + nx (ndiff s T0) := by
      rcases ih with h | ⟨T0, h1, h2, h3⟩
      · exact .inl h
      · exact .inr ⟨T0, h1, by omega, h3⟩
    rw [tryB]
    by_cases hc : (nb (T + 1) ≤ fr ∧ W (T + 1) ≠ 0) ∧ ndiff (T + 1) s = 0
    · rw [if_pos hc]
      split
      · exact ih'
      · exact .inr ⟨T + 1, by omega, Nat.le_refl _, hc.1, hc.2, rfl⟩
    · rw [if_neg hc]
      exact ih'
/-- What the reference's table holds: no plan of the last j days over a set is worth more, and one is worth so much. -/
theorem dayB_max (rest : List S40) (hl : rest.length ≤ 6) (fr : Nat → Int) (D : Nat) (j : Nat) (hj : j ≤ D) : ∀ s, s < 2 ^ rest.length →
    (∀ r, Adm fr rest.length (D - j) D r → Within rest.length s r → fsum rest r rest.length ≤ dayB rest fr D j s) ∧
    (∃ r, (∀ i, i < rest.length → r i = -1 ∨ (((D - j : Nat) : Int) ≤ r i ∧ r i < (D : Int))) ∧ (∀ d : Nat, D - j ≤ d → d < D → 0 < cnt r d rest.length → ((cnt r d rest.length : Nat) : Int) ≤ fr d) ∧ Within rest.length s r ∧ fsum rest r rest.length = dayB rest fr D j s) := by
  induction j with
  | zero =>
    intro s hs
    have hz : ∀ (r : Nat → Int) (n : Nat), (∀ i, i < n → r i = -1) → fsum rest r n = 0 := by
      intro r n h
      induction n with
      | zero => rfl
      | succ n ih => rw [fsum, ih (fun i hi => h i (by omega)), h n (by omega)]; rfl
    refine ⟨fun r hr _ => ?_, ⟨fun _ => -1, fun i _ => .inl rfl, fun d h1 h2 => by omega, fun i _ h => absurd (show (0 : Int) ≤ -1 from h) (by decide), ?_⟩⟩
    · rw [hz r _ (fun i hi => by rcases hr.1 i hi with h | ⟨ha, hb⟩; exact h; exfalso; omega)]
      exact Int.le_refl 0
    · rw [hz _ _ (fun _ _ => rfl)]; rfl
  | succ j ih =>
    intro s hs
    have ih := ih (by omega)
    obtain ⟨d0, hd0⟩ : ∃ d0, d0 = D - 1 - j := ⟨_, rfl⟩
    rw [dayB, if_pos hs, ← hd0]
    have hlo : D - (j + 1) = d0 := by omega
    have hlo2 : D - j = d0 + 1 := by omega
    constructor
    · intro r hr hw
      obtain ⟨T, hT⟩ : ∃ T, T = maskOf (fun i => decide (r i = d0)) rest.length := ⟨_, rfl⟩
      have hTb : ∀ i, i < rest.length → T.testBit i = decide (r i = d0) := by
        intro i hi
        rw [hT, maskOf_testBit]
        simp [hi]
      have hTl : T < 2 ^ rest.length := by rw [hT]; exact maskOf_lt _ _
      have hsp := fsum_split rest d0 (by omega) T r (dropDay d0 r) rest.length (fun i hi => by
        rw [hTb i hi]
        unfold dropDay
        constructor
        · intro h
          have h := of_decide_eq_true h
          exact ⟨h, if_pos h⟩
        · intro h
          have h := of_decide_eq_false h
          rw [if_neg h])
      have hA : Adm fr rest.length (D - j) D (dropDay d0 r) := by
        constructor
        · intro i hi
          unfold dropDay
          by_cases h : r i = d0
          · rw [if_pos h]; exact .inl rfl
          · rw [if_neg h]
            rcases hr.1 i hi with h1 | h1
            · exact .inl h1
            · right; omega
        · intro d h1 h2
          rw [cnt_congr (dropDay d0 r) r d rest.length (fun i hi => by
            unfold dropDay
            by_cases h : r i = d0
            · rw [if_pos h]; constructor <;> intro h3 <;> omega
            · rw [if_neg h])]
          exact hr.2 d (by omega) h2
      have hWs : Within rest.length s (dropDay d0 r) := by
        intro i hi h
        unfold dropDay at h
        by_cases h1 : r i = d0
        · rw [if_pos h1] at h; omega
        · rw [if_neg h1] at h; exact hw i hi h
      have hnx := (ih s hs).1 _ hA hWs
      by_cases h0 : T = 0 ∨ bitW rest d0 T rest.length = 0
      · have : bitW rest d0 T rest.length = 0 := by
          rcases h0 with h0 | h0
          · rw [h0, bitW_zero]
          · exact h0
        rw [hsp, this, Int.zero_add]
        exact Int.le_trans hnx (tryB_ge _ _ _ _ _ _)
      · have h0a : T ≠ 0 := fun h => h0 (.inl h)
        have h0b : bitW rest d0 T rest.length ≠ 0 := fun h => h0 (.inr h)
        have hsub : ndiff T s = 0 := by
          apply Nat.eq_of_testBit_eq
          intro i
          rw [ndiff_testBit, Nat.zero_testBit]
          by_cases hi : i < rest.length
          · rw [hTb i hi]
            by_cases h : r i = d0
            · rw [hw i hi (by omega)]; simp
            · simp [h]
          · rw [Nat.testBit_lt_two_pow (Nat.lt_of_lt_of_le hTl (Nat.pow_le_pow_right (by decide) (by omega)))]
            rfl
        have hWd : Within rest.length (ndiff s T) (dropDay d0 r) := by
          intro i hi h
          rw [ndiff_testBit, hTb i hi, hWs i hi h]
          unfold dropDay at h
          by_cases h1 : r i = d0
          · rw [if_pos h1] at h; omega
          · simp [h1]
        have hle : ndiff s T < 2 ^ rest.length := Nat.lt_of_le_of_lt (ndiff_le s T) hs
        have h3 := (ih _ hle).1 _ hA hWd
        have hn : nb6 T ≤ fr d0 := by
          unfold nb6
          rw [nbits_lt T rest.length 6 hTl hl, nbits_day r d0 T rest.length hTb]
          exact hr.2 d0 (by omega) (by omega)
        have h4 := tryB_ge_at (fun T => bitW rest d0 T rest.length) nb6 (fr d0) (dayB rest fr D j) T (2 ^ rest.length - 1) s (by omega) (by omega) ⟨hn, h0b⟩ hsub
        rw [hsp]
        refine Int.le_trans ?_ h4
        show bitW rest d0 T rest.length + _ ≤ bitW rest d0 T rest.length + _
        omega
    · rcases tryB_from (fun T => bitW rest d0 T rest.length) nb6 (fr d0) (dayB rest fr D j) (2 ^ rest.length - 1) s with h | ⟨T, h1, h2, h3, h4, h5⟩
      · obtain ⟨r, g1, g2, g3, g4⟩ := (ih s hs).2
        refine ⟨r, fun i hi => ?_, fun d e1 e2 e3 => ?_, g3, by rw [h]; exact g4⟩
        · rcases g1 i hi with g | g
          · exact .inl g
          · right; omega
        · by_cases hd : d = d0
          · exfalso
            have := cnt_zero_of r d rest.length (fun i hi => by rcases g1 i hi with g | g <;> omega)
            omega
          · exact g2 d (by omega) e2 e3
      · have hle : ndiff s T < 2 ^ rest.length := Nat.lt_of_le_of_lt (ndiff_le s T) hs
        obtain ⟨r, g1, g2, g3, g4⟩ := (ih _ hle).2
        have hTl : T < 2 ^ rest.length := by omega
        have hoff : ∀ i, i < rest.length → T.testBit i = true → r i = -1 := by
          intro i hi hb
          rcases g1 i hi with g | g
          · exact g
          · exfalso
            have := g3 i hi (by omega)
            rw [ndiff_testBit, hb] at this
            simp at this
        have hsp := fsum_split rest d0 (by omega) T (moveTo T d0 r) r rest.length (fun i hi => by
          unfold moveTo
          constructor
          · intro h
            rw [if_pos h]
            exact ⟨rfl, hoff i hi h⟩
          · intro h
            rw [h]
            simp)
        refine ⟨moveTo T d0 r, fun i hi => ?_, fun d e1 e2 e3 => ?_, fun i hi hp => ?_, by rw [hsp, h5, g4]⟩
        · unfold moveTo
          split
          · right; omega
          · rcases g1 i hi with g | g
            · exact .inl g
            · right; omega
        · by_cases hd : d = d0
          · subst hd
            have hb : ∀ i, i < rest.length → T.testBit i = decide (moveTo T d r i = d) := by
              intro i hi
              unfold moveTo
              cases hb : T.testBit i with
              | true => simp
              | false =>
                have : r i ≠ d := by rcases g1 i hi with g | g <;> omega
                simp [this]
            rw [← nbits_day (moveTo T d r) d T rest.length hb, ← nbits_lt T rest.length 6 hTl hl]
            exact h3.1
          · have hc := cnt_congr (moveTo T d0 r) r d rest.length (fun i hi => by
              unfold moveTo
              cases hb : T.testBit i with
              | true => rw [hoff i hi hb]; simp only [if_true]; constructor <;> intro h <;> omega
              | false => simp)
            rw [hc] at e3 ⊢
            exact g2 d (by omega) e2 e3
        · unfold moveTo at hp
          cases hb : T.testBit i with
          | true =>
            have := congrArg (·.testBit i) h4
            simp only [ndiff_testBit, hb, Nat.zero_testBit] at this
            simpa using this
          | false =>
            rw [hb] at hp
            have := g3 i hi (by simpa using hp)
            rw [ndiff_testBit] at this
            simp only [Bool.and_eq_true] at this
            exact this.1
end Go.Proofs.Ytokeeplkbgdokaa

/- Arrays as variables: their cells are one name, however many they are: laws for making, reading and writing them. -/
namespace Go.Proofs.Ytokeeplkbgdokaa.Arr
open Go Go.RowKit Go.Proofs.YtokeeplkbgdokaaW.PrintWords Go.Proofs.YtokeeplkbgdokaaW.PrintMore
set_option linter.unusedVariables false

section
variable {P : Program} {ops : Array Oper} {rest : List Oper} {o : Oper} {a : Act} {Q : Exit → Act → World → Prop} {w : World}
/-- A type's zero value is an aggregate of these cells. -/
structure Zero (P : Program) (T : TypeId) (zs : Array Value) : Prop where
  info : (P.info? T).map (fun i => (i.zero, i.size)) = some (some (.agg zs), zs.size)
  built : P.built T [] = some zs
  ones : zs.all (·.oneCell') = true
theorem Zero.size {T : TypeId} {zs : Array Value} (h : Zero P T zs) : (P.info? T).map (·.size) = some zs.size := (zero_of_info h.info).2
theorem wpList_allocTo (hg : o.guard = none) (T : TypeId) (ho : o.op = .alloc T) (d : Option Tmp) (hd : o.dst = d) (zs : Array Value) (hz : Zero P T zs)
    (h : wpList P ops Q rest (a.put d (.pointer (some ⟨w.heap.size, 0, none⟩))) (w.alloc (.cells zs T))) : wpList P ops Q (o :: rest) a w := by
  subst hd
  refine wpList_plain hg fun _ hK => ?_
  unfold Oper.wp execOp
  have hzr := (zero_of_info hz.info).1 w
  simp only [ho, Instr.alloc, newVar, newRow, run_newObj_alloc, Sem.run_bind, Sem.run_pure, hzr, Result.andThen_ok, Value.cells]
  exact hK _ _ h
/-- What has just been laid is laid once more: nothing changes. -/
theorem wpList_storeNew (hg : o.guard = none) (T : TypeId) (x y : Operand) (ho : o.op = .store T x y) (hd : o.dst = none) (cs zs : Array Value) (hz : (P.info? T).map (·.size) = some cs.size) (h1 : cs.all (·.oneCell') = true) (hs : zs.size = cs.size) (w : World)
    (hx : a.eval x = .pointer (some ⟨w.heap.size, 0, none⟩)) (hy : a.eval y = .agg cs)
    (h : wpList P ops Q rest a (w.alloc (.cells cs T))) : wpList P ops Q (o :: rest) a (w.alloc (.cells zs T)) := by
  refine wpList_store_row hg T x y ho w.heap.size cs hx hy T zs (heap_alloc_last w _) hz hs h1 ?_
  rw [World.setRow_alloc_new, hd]
  exact h
end
/-- Numbers as cells. -/
def ints (k : IntKind) (xs : List Int) : Array Value := (xs.map (Value.int k)).toArray
theorem ints_size (k : IntKind) (xs : List Int) : (ints k xs).size = xs.length := by simp [ints]
theorem ints_at (k : IntKind) (xs : List Int) (i : Nat) (h : i < xs.length) : (ints k xs)[i]? = some (.int k (xs.getD i 0)) := by
  simp [ints, List.getD, h]
theorem ints_set (k : IntKind) (xs : List Int) (i : Nat) (v : Int) : (ints k xs).setIfInBounds i (.int k v) = ints k (xs.set i v) := by
  apply Array.toList_inj.1
  simp [ints, List.map_set]
theorem ints_ones (k : IntKind) (xs : List Int) : (ints k xs).all (·.oneCell') = true := by
  rw [Array.all_eq_true_iff_forall_mem]
  intro v hv
  simp only [ints, List.mem_toArray, List.mem_map] at hv
  obtain ⟨x, _, rfl⟩ := hv
  rfl
theorem ints_reps (k : IntKind) (n : Nat) (z : Int) : ints k (List.replicate n z) = Array.replicate n (Value.int k z) := by
  apply Array.toList_inj.1
  simp [ints]
section
variable {w : World} {g : Nat} {k : IntKind} {xs : List Int} {T : TypeId}
theorem box_cell (h : w.heap[g]? = some (.cells (ints k xs) T (0, 0))) (i : Nat) (hi : i < xs.length) : w.cell? ⟨g, i, none⟩ = some (.int k (xs.getD i 0)) := by rw [blk_cell h, ints_at k xs i hi]
theorem box_set (h : w.heap[g]? = some (.cells (ints k xs) T (0, 0))) (i : Nat) (v : Int) : (w.setCell ⟨g, i, none⟩ (.int k v)).heap[g]? = some (.cells (ints k (xs.set i v)) T (0, 0)) := by
  rw [← ints_set]; exact heap_setCell_same w g i _ T _ h
theorem box_C (h : w.heap[g]? = some (.cells (ints k xs) T (0, 0))) (hn : xs.length ≤ 9223372036854775807) : Kd.C (Kd.int k) w (some ⟨g, 0, none⟩) xs.length xs := by
  refine ⟨rfl, hn, fun _ => ⟨_, rfl, fun j p hj => ⟨[.int k p], rfl, rfl, fun i u hi => ?_⟩⟩⟩
  obtain ⟨hjl, hp⟩ := List.getElem?_eq_some_iff.1 hj
  have hi0 : i = 0 := by
    rcases i with _ | i
    · rfl
    · simp at hi
  subst hi0
  have hu : u = .int k p := by simpa using hi.symm
  subst hu
  have := box_cell h j hjl
  rw [Addr.add_mid]
  simp only [Kd.int, Kd.scalar, Nat.mul_one, Nat.add_zero, Nat.zero_add]
  rw [this, List.getD_eq_getElem?_getD, List.getElem?_eq_getElem hjl, hp]
  rfl
end
end Go.Proofs.Ytokeeplkbgdokaa.Arr

/- impl.ValidPlan walked: it answers planOk. -/
namespace Go.Proofs.Ytokeeplkbgdokaa
open Go.RowKit Go.Proofs.YtokeeplkbgdokaaW.PrintWords Go.Proofs.YtokeeplkbgdokaaW.PrintLast Go.Proofs.YtokeeplkbgdokaaW.PrintMore Go.Proofs.Ytokeeplkbgdokaa.Pq
set_option linter.unusedSimpArgs false
set_option linter.unusedVariables false

theorem counts_length (p : List Int) : (counts p).length = 20 := by simp [counts]
theorem cnt_at (p : List Int) (d : Nat) (h : d < 20) : (counts p).getD d 0 = dayCount p d := by
  simp [counts, List.getD, h]
theorem cnt_step (p : List Int) (x : Int) (d : Nat) (h : d < 20) (hx : x = d) : (counts p).set d (dayCount p d + 1) = counts (p ++ [x]) := by
  subst hx
  apply List.ext_getElem
  · simp [counts]
  · intro i h1 h2
    have hi : i < 20 := by simpa [counts] using h2
    rw [List.getElem_set]
    by_cases hd : d = i
    · subst hd
      simp [counts, dayCount]
    · have hn : ¬ ((d : Int) = (i : Int)) := by omega
      simp [counts, dayCount, hd, List.count_append, List.count_singleton, hn]
theorem cnt_skip (p : List Int) (x : Int) (hx : x < 0) : counts (p ++ [x]) = counts p := by
  unfold counts dayCount
  apply List.map_congr_left
  intro d _
  have hn : ¬ (x = (d : Int)) := by omega
  simp [List.count_append, List.count_singleton, hn]
theorem cnt_zero : counts [] = List.replicate 20 0 := by
  rfl
def impl_ValidPlan.f (l0 : List S40) (a1 : Int) (l2 : List Int) : Option Bool :=
  if l0.length ≤ 1000000 ∧ l2.length ≤ 1000000 ∧ (∀ x ∈ l0, plWf x) then some (planOk l0 a1 l2) else none
def zero20 : Array Value := Arr.ints .i64 (List.replicate 20 0)
theorem zero20_at : Arr.Zero Try.prog 59 zero20 := ⟨by kernel_rfl, by kernel_rfl, by kernel_rfl⟩
set_option maxHeartbeats 4000000 in
set_option maxRecDepth 100000 in
theorem vp_noPlots (A0 : Option Addr) (c0 : Nat) (l0 : List S40) (a1 : Int) (A2 : Option Addr) (c2 : Nat) (l2 : List Int) (w : World) (HR0 : Aside0 (Kd.C k40 w A0 l0.length l0)) (HC0 : Aside0 (l0.length ≤ c0)) (HP : Aside0 (impl_ValidPlots.f (l0.length + 1) l0 = some false)) :
    Calls Try.prog 15 #[.slice A0 l0.length c0, .int .i64 a1, .slice A2 l2.length c2] w fun e w' => e = .returned (.bool false) ∧ Below w.heap.size w w' := by
  go_enter Try.func15, Try.ntmps15
  go_wp2_with fail
  (with_reducible refine (impl_ValidPlots.calls (l0.length + 1) A0 c0 l0 false _ HR0.out HC0.out HP.out).mono ?_); rintro e w1 ⟨rfl, hb1⟩
  have HB1 := Aside0.mk hb1
  clear hb1
  go_wp2_with fail
  go_ret
  exact ⟨rfl, HB1.out⟩
set_option maxHeartbeats 4000000 in
set_option maxRecDepth 100000 in
theorem vp_noHands (A0 : Option Addr) (c0 : Nat) (l0 : List S40) (a1 : Int) (A2 : Option Addr) (c2 : Nat) (l2 : List Int) (w : World) (HR0 : Aside0 (Kd.C k40 w A0 l0.length l0)) (HC0 : Aside0 (l0.length ≤ c0)) (HP : Aside0 (impl_ValidPlots.f (l0.length + 1) l0 = some true)) (HH : Aside0 (impl_areHands.f a1 = some false)) :
    Calls Try.prog 15 #[.slice A0 l0.length c0, .int .i64 a1, .slice A2 l2.length c2] w fun e w' => e = .returned (.bool false) ∧ Below w.heap.size w w' := by
  go_enter Try.func15, Try.ntmps15
  go_wp2_with fail
  (with_reducible refine (impl_ValidPlots.calls (l0.length + 1) A0 c0 l0 true _ HR0.out HC0.out HP.out).mono ?_); rintro e w1 ⟨rfl, hb1⟩
  have HB1 := Aside0.mk hb1
  clear hb1
  go_wp2_with fail
  (with_reducible refine (impl_areHands.calls a1 false _ HH.out).mono ?_); rintro e w2 ⟨rfl, n2, rfl⟩
  go_wp2_with fail
  go_ret
  exact ⟨rfl, pw_below_drewN HB1.out _⟩
set_option maxHeartbeats 4000000 in
set_option maxRecDepth 100000 in
theorem vp_noLen (A0 : Option Addr) (c0 : Nat) (l0 : List S40) (a1 : Int) (A2 : Option Addr) (c2 : Nat) (l2 : List Int) (w : World) (HR0 : Aside0 (Kd.C k40 w A0 l0.length l0)) (HC0 : Aside0 (l0.length ≤ c0)) (HP : Aside0 (impl_ValidPlots.f (l0.length + 1) l0 = some true)) (HH : Aside0 (impl_areHands.f a1 = some true)) (c3 : ¬ ((l2.length : Int) = (l0.length : Int))) :
    Calls Try.prog 15 #[.slice A0 l0.length c0, .int .i64 a1, .slice A2 l2.length c2] w fun e w' => e = .returned (.bool false) ∧ Below w.heap.size w w' := by
  go_enter Try.func15, Try.ntmps15
  go_wp2_with fail
  (with_reducible refine (impl_ValidPlots.calls (l0.length + 1) A0 c0 l0 true _ HR0.out HC0.out HP.out).mono ?_); rintro e w1 ⟨rfl, hb1⟩
  have HB1 := Aside0.mk hb1
  clear hb1
  go_wp2_with fail
  (with_reducible refine (impl_areHands.calls a1 true _ HH.out).mono ?_); rintro e w2 ⟨rfl, n2, rfl⟩
  go_wp2_with fail
  go_ret
  exact ⟨rfl, pw_below_drewN HB1.out _⟩
set_option maxHeartbeats 4000000 in
set_option maxRecDepth 100000 in
theorem vp_main (A0 : Option Addr) (c0 : Nat) (l0 : List S40) (a1 : Int) (A2 : Option Addr) (c2 : Nat) (l2 : List Int) (w : World) (HR0 : Aside0 (Kd.C k40 w A0 l0.length l0)) (HC0 : Aside0 (l0.length ≤ c0)) (HR2 : Aside0 (Kd.C (Kd.int .i64) w A2 l2.length l2)) (HC2 : Aside0 (l2.length ≤ c2)) (HL2 : Aside0 (l2.length ≤ 1000000)) (HP : Aside0 (impl_ValidPlots.f (l0.length + 1) l0 = some true)) (HH : Aside0 (impl_areHands.f a1 = some true)) (c3 : ((l2.length : Int) = (l0.length : Int))) :
    Calls Try.prog 15 #[.slice A0 l0.length c0, .int .i64 a1, .slice A2 l2.length c2] w fun e w' => e = .returned (.bool (planDays l2 && decide (Lib.maxOf (counts l2) ≤ a1))) ∧ Below w.heap.size w w' := by
  go_enter Try.func15, Try.ntmps15
  go_wp2_with fail
  (with_reducible refine (impl_ValidPlots.calls (l0.length + 1) A0 c0 l0 true _ HR0.out HC0.out HP.out).mono ?_); rintro e w1 ⟨rfl, hb1⟩
  have HB1 := Aside0.mk hb1
  clear hb1
  go_wp2_with fail
  (with_reducible refine (impl_areHands.calls a1 true _ HH.out).mono ?_); rintro e w2 ⟨rfl, n2, rfl⟩
  obtain ⟨wo, HWO⟩ : ∃ wo : World, Aside0 (wo = w1.drewN n2) := ⟨_, ⟨rfl⟩⟩
  rw [← HWO.out]
  have HBO : Aside0 (Below w.heap.size w wo) := ⟨by rw [HWO.out]; exact pw_below_drewN HB1.out _⟩
  clear HWO HB1
  go_wp2_with (first | ((with_reducible refine gate_dst (N := 25) rfl ?_); refine Great.wpList_buildTo rfl 59 #[] rfl (some 25) rfl zero20 zero20_at.built ?_) | ((with_reducible refine gate_dst (N := 7) rfl ?_); refine Arr.wpList_allocTo rfl 59 rfl (some 7) rfl zero20 zero20_at ?_) | (refine Arr.wpList_storeNew rfl 59 (.tmp 7) (.tmp 25) rfl rfl zero20 zero20 zero20_at.size zero20_at.ones rfl _ rfl rfl ?_))
  go_loopw [28] (fun i wr => ∃ k : Nat, k ≤ l2.length ∧ i = .int .i64 k ∧ wr.heap[wo.heap.size]? = some (.cells (Arr.ints .i64 (counts (l2.take k))) 59 (0, 0)) ∧ Aside0 (Below w.heap.size w wr) ∧ Aside0 (planDays (l2.take k) = true)) (fun i _ => l2.length - (intOf i).toNat)
  case atStart => exact ⟨0, Nat.zero_le _, rfl, by rw [List.take_zero, cnt_zero]; exact heap_alloc_last wo _, ⟨HBO.out.alloc HBO.out.size _⟩, ⟨rfl⟩⟩
  case round =>
    obtain ⟨k, hk, rfl, HM, HB, HO⟩ := hrel
    by_cases hlt : k < l2.length
    · have p0 : (0 : Int) ≤ (k : Int) := by omega
      have q0 : (k : Int) < l2.length := by omega
      have q1 : (k : Int) < l0.length := by omega
      obtain ⟨ad, ea, hx0⟩ := Kd.at_int HR2.out k p0 q0
      cases ea
      replace hx0 := (HB.out.cell (World.block_lt_of_cell? w _ hx0)).trans hx0
      have HTK := Aside0.mk (show l2.take (k + 1) = l2.take k ++ [rd l2 k] by rw [List.take_succ_eq_append_getElem hlt]; simp [rd, hlt])
      obtain ⟨d, HD⟩ : ∃ d, Aside0 (rd l2 k = d) := ⟨_, ⟨rfl⟩⟩
      rw [HD.out] at hx0 HTK
      rw [Int.toNat_natCast] at hx0
      by_cases hin : -1 ≤ d ∧ d ≤ 19
      · have HW := Aside0.mk (show impl_within.f d (-1) 19 = some true by rw [pl_within, decide_eq_true hin])
        have HPD := Aside0.mk (show planDays (l2.take (k + 1)) = true by rw [HTK.out]; unfold planDays; rw [List.all_append]; have := HO.out; unfold planDays at this; rw [this]; simp [hin])
        have HIN := Aside0.mk hin
        clear hin
        by_cases hd : 0 ≤ d
        · obtain ⟨n, rfl⟩ : ∃ n : Nat, d = n := ⟨d.toNat, by omega⟩
          have hn : n < 20 := by have := HIN.out; omega
          have hd1 : (n : Int) < 20 := by omega
          have hc1 : wr.cell? ⟨wo.heap.size, n, none⟩ = some (.int .i64 (dayCount (l2.take k) n)) := by rw [Arr.box_cell HM n (by rw [counts_length]; exact hn), cnt_at _ _ hn]
          have hf1 : wr.frozen? ⟨wo.heap.size, n, none⟩ = false := blk_frozen HM n
          have hcb : 0 ≤ dayCount (l2.take k) n ∧ dayCount (l2.take k) n ≤ k := by
            have : (l2.take k).count (n : Int) ≤ (l2.take k).length := List.count_le_length
            rw [List.length_take] at this
            unfold dayCount
            omega
          have hl2 : (l2.length : Int) ≤ 1000000 := by have := HL2.out; omega
          go_wp2_with fail
          (with_reducible refine (impl_within.calls n (-1) 19 true _ HW.out).mono ?_); rintro e w3 ⟨rfl, n3, rfl⟩
          go_wp2_with fail
          go_roundw
          case rel => exact ⟨k + 1, hlt, by go_num, by rw [HTK.out, ← cnt_step _ _ n hn rfl]; exact Arr.box_set (w := wr.drewN n3) HM n _, ⟨(pw_below_drewN HB.out n3).setCell HBO.out.size _⟩, HPD⟩
          case measure => simp [intOf]; omega
        · have hd1 : d < 0 := by omega
          have hl2 : (l2.length : Int) ≤ 1000000 := by have := HL2.out; omega
          go_wp2_with fail
          (with_reducible refine (impl_within.calls d (-1) 19 true _ HW.out).mono ?_); rintro e w3 ⟨rfl, n3, rfl⟩
          go_wp2_with fail
          go_roundw
          case rel => exact ⟨k + 1, hlt, by go_num, by rw [HTK.out, cnt_skip _ _ hd1]; exact HM, ⟨pw_below_drewN HB.out n3⟩, HPD⟩
          case measure => simp [intOf]; omega
      · have HW := Aside0.mk (show impl_within.f d (-1) 19 = some false by rw [pl_within, decide_eq_false hin])
        have HPD := Aside0.mk (show planDays l2 = false by
          unfold planDays
          rw [List.all_eq_false]
          refine ⟨l2[k], List.getElem_mem hlt, ?_⟩
          have : rd l2 k = l2[k] := by simp [rd, hlt]
          rw [← this, HD.out]
          simpa using hin)
        clear hin
        go_wp2_with fail
        (with_reducible refine (impl_within.calls d (-1) 19 false _ HW.out).mono ?_); rintro e w3 ⟨rfl, n3, rfl⟩
        go_wp2_with fail
        go_ret
        exact ⟨by rw [HPD.out]; rfl, pw_below_drewN HB.out n3⟩
    · have q0 : ¬ (k : Int) < l0.length := by omega
      obtain rfl : k = l2.length := by omega
      rw [List.take_length] at HM HO
      have HX := slices_Max.calls (some ⟨wo.heap.size, 0, none⟩) 20 (counts l2) (Lib.maxOf (counts l2)) wr (Arr.box_C HM (by rw [counts_length]; omega)) (by rw [counts_length]; omega) (by unfold slices_Max.f; rw [counts_length]; rfl)
      rw [counts_length] at HX
      have HX := Aside0.mk HX
      go_wp2_with fail
      (with_reducible refine HX.out.mono ?_); rintro e w3 ⟨rfl, n3, rfl⟩
      go_wp2_with fail
      go_ret
      exact ⟨by rw [HO.out]; rfl, pw_below_drewN HB.out n3⟩

theorem impl_ValidPlan.calls (A0 : Option Addr) (c0 : Nat) (l0 : List S40) (a1 : Int) (A2 : Option Addr) (c2 : Nat) (l2 : List Int) (r : Bool) (w : World) (hr0 : Kd.C k40 w A0 l0.length l0) (hc0 : l0.length ≤ c0) (hr2 : Kd.C (Kd.int .i64) w A2 l2.length l2) (hc2 : l2.length ≤ c2) (h : impl_ValidPlan.f l0 a1 l2 = some r) :
    Calls Try.prog 15 #[.slice A0 l0.length c0, .int .i64 a1, .slice A2 l2.length c2] w fun e w' => e = .returned (.bool r) ∧ Below w.heap.size w w' := by
  unfold impl_ValidPlan.f at h
  split at h
  case isFalse => cases h
  rename_i hs
  obtain ⟨hl0, hl2, hwf⟩ := hs
  obtain rfl := Option.some.inj h
  clear h
  have hp := plots_f l0 hl0 hwf (l0.length + 1) (Nat.lt_succ_self _)
  have hh : impl_areHands.f a1 = some (decide (1 ≤ a1 ∧ a1 ≤ 3)) := by simp [impl_areHands.f, pl_within]
  unfold planOk
  cases cV : (l0.all plotOk && decide (l0.length ≤ 6)) with
  | false => rw [cV] at hp; exact vp_noPlots A0 c0 l0 a1 A2 c2 l2 w ⟨hr0⟩ ⟨hc0⟩ ⟨hp⟩
  | true =>
    rw [cV] at hp
    by_cases cH : (1 ≤ a1 ∧ a1 ≤ 3)
    · rw [decide_eq_true cH] at hh ⊢
      by_cases cL : l2.length = l0.length
      · rw [decide_eq_true cL]; exact vp_main A0 c0 l0 a1 A2 c2 l2 w ⟨hr0⟩ ⟨hc0⟩ ⟨hr2⟩ ⟨hc2⟩ ⟨hl2⟩ ⟨hp⟩ ⟨hh⟩ (by omega)
      · rw [decide_eq_false cL]; exact vp_noLen A0 c0 l0 a1 A2 c2 l2 w ⟨hr0⟩ ⟨hc0⟩ ⟨hp⟩ ⟨hh⟩ (by omega)
    · rw [decide_eq_false cH] at hh ⊢; exact vp_noHands A0 c0 l0 a1 A2 c2 l2 w ⟨hr0⟩ ⟨hc0⟩ ⟨hp⟩ ⟨hh⟩
end Go.Proofs.Ytokeeplkbgdokaa

/- Functions of the program as Lean functions, each with a proof that a call of it comes to just that. Written by this session's program wip/tools/myprint.py. -/
namespace Go.Proofs.Ytokeeplkbgdokaa.Pb
open Go.RowKit Go.Proofs.YtokeeplkbgdokaaW.PrintWords Go.Proofs.YtokeeplkbgdokaaW.PrintLast Go.Proofs.YtokeeplkbgdokaaW.PrintMore
attribute [local go_sem] max2_int min2_int max_two min_two max_three min_three max_four min_four   -- for this text's walks alone
set_option linter.unusedVariables false
set_option linter.unusedSimpArgs false



def errW : Option Int → Value
 | none => .nilIface
 | some c => .iface 0 (.int .i64 c)
theorem errW_none : errW none = .nilIface := rfl
theorem errW_some (c : Int) : errW (some c) = .iface 0 (.int .i64 c) := rfl

-- the values' own types

end Go.Proofs.Ytokeeplkbgdokaa.Pb

/- Functions of the program as Lean functions, each with a proof that a call of it comes to just that. Written by this session's program wip/tools/myprint.py. -/
namespace Go.Proofs.Ytokeeplkbgdokaa.Pb
open Go.RowKit Go.Proofs.YtokeeplkbgdokaaW.PrintWords Go.Proofs.YtokeeplkbgdokaaW.PrintLast Go.Proofs.YtokeeplkbgdokaaW.PrintMore
attribute [local go_sem] max2_int min2_int max_two min_two max_three min_three max_four min_four   -- for this text's walks alone
set_option linter.unusedVariables false
set_option linter.unusedSimpArgs false

/-! ### spec_l07Bits: function 54 -/
def spec_l07Bits.l0 : Nat → Int → Int → Option (Int)
 | 0, _, _ => none
 | k + 1, x0, x3 => if x0 > 0 then (spec_l07Bits.l0 k (x0 / 2) (wrap64 (x3 + (Go.bits .and .i64 x0 1)))) else (some x3)
def spec_l07Bits.f (k : Nat) (a0 : Int) : Option (Int) := spec_l07Bits.l0 k a0 0
theorem spec_l07Bits.mono_l : ∀ k, (∀ y0 y1, LeO (spec_l07Bits.l0 k y0 y1) (spec_l07Bits.l0 (k + 1) y0 y1))
 | 0 => fun _ _ r h => by simp [spec_l07Bits.l0] at h
 | k + 1 => by
  have ih0 := spec_l07Bits.mono_l k
  ·intro y0 y1
   unfold spec_l07Bits.l0
   repeat' first
   | (with_reducible exact ih0 _ _)
   | (with_reducible exact LeO.refl _)
   | (with_reducible exact LeO.none _)
   | (with_reducible refine LeO.ite ?_ ?_)
   | (with_reducible refine LeO.bind ?_ (fun _ => ?_))
   | exact ih0 _ _
   | exact LeO.none _
   | refine LeO.ite ?_ ?_
   | refine LeO.bind ?_ (fun _ => ?_)
theorem spec_l07Bits.mono : ∀ a0 k, LeO (spec_l07Bits.f k a0) (spec_l07Bits.f (k + 1) a0) := by
 intro a0 k
 have ih0 := spec_l07Bits.mono_l k
 unfold spec_l07Bits.f
 repeat' first
   | (with_reducible exact ih0 _ _)
   | (with_reducible exact LeO.refl _)
   | (with_reducible exact LeO.none _)
   | (with_reducible refine LeO.ite ?_ ?_)
   | (with_reducible refine LeO.bind ?_ (fun _ => ?_))
   | exact ih0 _ _
   | exact LeO.none _
   | refine LeO.ite ?_ ?_
   | refine LeO.bind ?_ (fun _ => ?_)
set_option maxHeartbeats 8000000 in
set_option maxRecDepth 100000 in
theorem spec_l07Bits.calls (k : Nat) (a0 : Int) (r : Int) (w : World) (h : spec_l07Bits.f k a0 = some r) :
  Calls Try.prog 54 #[.int .i64 a0] w fun e w' => e = .returned (.int .i64 r) ∧ Drawn0 w w' := by
 have H : (spec_l07Bits.l0 k a0 0) = some r := h
 clear h
 have H' := Aside0.mk H
 clear H
 go_enter Try.func54, Try.ntmps54
 go_wp2
 go_loopg [0, 3] k (fun kq v0 v3 w' => ∃ (x0_1 : Int) (x3_1 : Int), v0 = .int .i64 x0_1 ∧ v3 = .int .i64 x3_1 ∧ Aside0 (spec_l07Bits.l0 kq x0_1 x3_1 = some r) ∧ Aside0 (kq ≤ k) ∧ Drawn0 w w')
 case atStart => exact ⟨(a0), (0), (by first | rfl | (simp; done) | (simp [*]; done)), (by first | rfl | (simp; done) | (simp [*]; done)), H', ⟨Nat.le_refl _⟩, by repeat (first | exact Drawn0.refl _ | apply Drawn0.step)⟩
 case round =>
  clear H'
  obtain ⟨x0_1, x3_1, rfl, rfl, HA, HK1, ⟨m1, rfl⟩⟩ := hrel
  cases gk with
  | zero => exact absurd HA.out (by simp [spec_l07Bits.l0])
  | succ k1 =>
   have H := HA.out
   clear HA
   simp only [spec_l07Bits.l0] at H
   by_cases c2 : x0_1 > 0
   ·rw [if_pos c2] at H
    have c2b0 : decide (0 < x0_1) = true := decide_eq_true c2
    clear c2
    have H' := Aside0.mk H
    clear H
    go_wp2
    go_roundg k1
    case measure => have := HK1.out; omega
    case rel => exact ⟨(x0_1 / 2), (wrap64 (x3_1 + (Go.bits .and .i64 x0_1 1))), (by first | rfl | (simp; done) | (simp [*]; done)), (by first | rfl | (simp; done) | (simp [*]; done)), H', ⟨by have := HK1.out; omega⟩, by repeat (first | exact Drawn0.refl _ | apply Drawn0.step)⟩
   ·rw [if_neg c2] at H
    have c2b0 : decide (0 < x0_1) = false := decide_eq_false c2
    clear c2
    obtain rfl := Option.some.inj H
    go_wp2
    go_ret
    exact ⟨by first | rfl | (simp; done) | (simp [*]; done), by repeat (first | exact Drawn0.refl _ | apply Drawn0.step)⟩

end Go.Proofs.Ytokeeplkbgdokaa.Pb

/- spec.l07Try walked: it answers tryV. -/
namespace Go.Proofs.Ytokeeplkbgdokaa
open Go.RowKit Go.Proofs.YtokeeplkbgdokaaW.PrintWords Go.Proofs.YtokeeplkbgdokaaW.PrintLast Go.Proofs.YtokeeplkbgdokaaW.PrintMore Go.Proofs.Ytokeeplkbgdokaa.Pq
set_option linter.unusedSimpArgs false
set_option linter.unusedVariables false

def zero64 : Array Value := Arr.ints .i64 (List.replicate 64 0)
theorem zero64_at : Arr.Zero Try.prog 72 zero64 := ⟨by kernel_rfl, by kernel_rfl, by kernel_rfl⟩
theorem infoPlot : (Try.prog.info? 40).map (fun i => (i.zero, i.size, i.bytes)) = some (some (.agg #[.int .i16 0, .int .i16 0, .int .i16 0, .int .i16 0]), k40.sz, 8) := by kernel_rfl
theorem R_fresh' {α : Type} (d : Kd α) (W : World) (e base : Nat) (hb : base ≤ W.heap.size) : Kd.R d e (W.alloc (.cells #[] e)) base (fun _ => True) (.slice (some ⟨W.heap.size, 0, none⟩) 0 0) [] := by
  refine ⟨fun _ _ => trivial, [], ?_, Reps.none _ _⟩
  have h2 := World.ownsRow_lit (base := base) (e := e) (size := d.sz) W #[] 0 hb (by simp [maxLen]) (by simp)
  simpa using h2
theorem R_open' {α : Type} {d : Kd α} {e base : Nat} {ok : Nat → Prop} {w : World} {v : Value} {xs : List α} (h : d.R e w base ok v xs) : ∃ A c, v = .slice A xs.length c ∧ xs.length ≤ c ∧ d.C w A xs.length xs := by
  obtain ⟨inner, ho⟩ := Kd.R_own h
  obtain ⟨A, c, rfl⟩ := own_slice ho
  obtain ⟨h1, h2, h3⟩ := Kd.R_reads' h
  exact ⟨A, c, rfl, h2, h3⟩

theorem bits_f (T : Nat) (h : T < 64) : Pb.spec_l07Bits.f 8 (T : Int) = some (nb6 T) := by
  have : ∀ T : Fin 64, Pb.spec_l07Bits.f 8 (T.val : Int) = some (nb6 T.val) := by decide +kernel
  exact this ⟨T, h⟩
theorem tryB_step (W : Nat → Int) (nb : Nat → Int) (fr : Int) (nx : Nat → Int) (T s : Nat) (hT : 1 ≤ T) : tryB W nb fr nx T s = if (nb T ≤ fr ∧ W T ≠ 0) ∧ ndiff T s = 0 then (if tryB W nb fr nx (T - 1) s > W T + nx (ndiff s T) then tryB W nb fr nx (T - 1) s else W T + nx (ndiff s T)) else tryB W nb fr nx (T - 1) s := by
  obtain ⟨T, rfl⟩ : ∃ m, T = m + 1 := ⟨T - 1, by omega⟩
  rfl
theorem tryB_skip (W : Nat → Int) (nb : Nat → Int) (fr : Int) (nx : Nat → Int) (T s : Nat) (hT : 1 ≤ T) (hc : ¬ ((nb T ≤ fr ∧ W T ≠ 0) ∧ ndiff T s = 0)) : tryB W nb fr nx T s = tryB W nb fr nx (T - 1) s := by
  rw [tryB_step _ _ _ _ _ _ hT, if_neg hc]
set_option maxHeartbeats 4000000 in
set_option maxRecDepth 100000 in
theorem try_walk (A0 : Option Addr) (c0 : Nat) (l0 : List S40) (h : Int) (D : Nat) (A3 : Option Addr) (c3 : Nat) (l3 : List Int) (w : World) (HR0 : Aside0 (Kd.C k40 w A0 l0.length l0)) (HC0 : Aside0 (l0.length ≤ c0)) (HR3 : Aside0 (Kd.C (Kd.int .i64) w A3 l3.length l3)) (HC3 : Aside0 (l3.length ≤ c3)) (hpre : Aside0 (tryPre l0 h D l3)) :
    Calls Try.prog 46 #[.slice A0 l0.length c0, .int .i64 h, .int .i64 D, .slice A3 l3.length c3] w fun e w' => e = .returned (.int .i64 (tryV l0 h D l3)) ∧ Below w.heap.size w w' := by
  have hl6 : (l0.length : Int) ≤ 6 := by have := hpre.out.1; omega
  have hlp : (l3.length : Int) ≤ (l0.length : Int) := by have := hpre.out.2.2.2.2.2.2.1; omega
  have hlc : (l0.length : Int) ≤ (c0 : Int) := by have := HC0.out; omega
  have hD : (D : Int) ≤ 20 := hpre.out.2.2.2.1
  obtain ⟨B0, HB0⟩ : ∃ B0, Aside0 (B0 = if c0 = l3.length then A0 else A0.map (·.add (l3.length * 4))) := ⟨_, ⟨rfl⟩⟩
  obtain ⟨rest, HRE⟩ : ∃ r, Aside0 (r = l0.drop l3.length) := ⟨_, ⟨rfl⟩⟩
  obtain ⟨n, HN⟩ : ∃ n, Aside0 (n = rest.length) := ⟨_, ⟨rfl⟩⟩
  have hn6 : n ≤ 6 := by rw [HN.out, HRE.out, List.length_drop]; omega
  have HNE : Aside0 (n = l0.length - l3.length) := ⟨by rw [HN.out, HRE.out, List.length_drop]⟩
  have HRD : Aside0 (Kd.C k40 w B0 n rest) := ⟨by
    have := Kd.C_drop (c := c0) HR0.out (m := l3.length) (by omega) HC0.out
    rw [HB0.out, HN.out, HRE.out]
    exact this⟩
  obtain ⟨all, HALL⟩ : ∃ all : Nat, Aside0 (all = 2 ^ n) := ⟨_, ⟨rfl⟩⟩
  have hall : (1 : Int) ≤ all ∧ (all : Int) ≤ 64 := by
    rw [HALL.out]
    rcases n with _ | _ | _ | _ | _ | _ | _ | n <;> first | omega | (constructor <;> decide)
  obtain ⟨hall1, hall2⟩ := hall
  have e14 : wrap64 (2 ^ n) = (all : Int) := by
    have : ((2 : Int) ^ n) = (all : Int) := by rw [HALL.out]; norm_cast
    rw [this]; unfold wrap64; omega
  have hsl : ∀ W : World, (Instr.slice 24 (.slice A0 l0.length c0) (some (.int .i64 l3.length)) none none).run Try.prog W = .ok (.slice B0 n (c0 - l3.length)) W := by
    intro W
    have h1 : (l3.length : Int) ≤ (l0.length : Int) := hlp
    have hq : (if c0 = l3.length then A0 else A0.map (·.add (l3.length * 4))) = B0 := HB0.out.symm
    have hs := (zero_of_info (P := Try.prog) (t := 40) (v := .agg #[.int .i16 0, .int .i16 0, .int .i16 0, .int .i16 0]) (n := 4) (by kernel_rfl)).2
    rw [HNE.out]
    have hu := Try.underlying24
    by_cases hc : c0 = l3.length
    · rw [if_pos hc] at hq
      subst hq
      go_simp
    · rw [if_neg hc] at hq
      subst hq
      go_simp
  go_enter Try.func46, Try.ntmps46
  go_wp2_with (first | ((with_reducible refine gate_builtin (b := .append) (xs := #[.tmp 22, .tmp 26]) rfl ?_); at_builtin; refine Kd.R_append_rows k40 (w0 := w) w.heap.size rfl (.tmp 22) (.tmp 26) 24 40 _ 8 rfl Try.underlying24 infoPlot rfl (by decide) (by omega) _ [] rest B0 n (c0 - l3.length) (fun _ => True) (fun _ => False) rfl rfl (R_fresh' _ _ _ _ (Nat.le_refl _)) (Kd.C_alloc HRD.out _) (fun x cs hk => by rw [k40_open hk]; exact k40_mkM _ _ _ x) (fun _ h => h.elim) (fun _ _ => trivial) ((Below.refl _ _).alloc (Nat.le_refl _) _) (by simp) (by simp; omega) ?_; intro v1 w1 ho hb hg hat; clear hg hat; have HO := Aside0.mk ho; have HB := Aside0.mk hb; clear ho hb) | ((with_reducible refine gate_dst (N := 10) rfl ?_); refine Arr.wpList_allocTo rfl 59 rfl (some 10) rfl zero20 zero20_at ?_) | (refine Arr.wpList_storeNew rfl 59 (.tmp 10) (.tmp 28) rfl rfl zero20 zero20 zero20_at.size zero20_at.ones rfl _ rfl rfl ?_))
  obtain ⟨B1, c1, rfl, hc1, hr1⟩ := R_open' HO.out
  have HR := Aside0.mk hr1
  have HC1 := Aside0.mk hc1
  rw [List.nil_append] at HR HC1
  rw [List.nil_append, ← HN.out]
  rw [← HN.out] at HR HC1
  clear hr1 hc1 HO HRD
  go_loopw [11] (fun i wr => ∃ k : Nat, k ≤ D ∧ i = .int .i64 k ∧ wr.heap[w1.heap.size]? = some (.cells (Arr.ints .i64 (vec20 fun d => if d < k then h else 0)) 59 (0, 0)) ∧ Aside0 (Below w1.heap.size w1 wr)) (fun i _ => D - (intOf i).toNat)
  case atStart => exact ⟨0, Nat.zero_le _, rfl, heap_alloc_last w1 _, ⟨(Below.refl _ w1).alloc (Nat.le_refl _) _⟩⟩
  case round =>
    obtain ⟨k, hk, rfl, HM, HB1⟩ := hrel
    by_cases hlt : k < D
    · have p0 : (0 : Int) ≤ (k : Int) := by omega
      have q0 : (k : Int) < D := by omega
      have q1 : (k : Int) < 20 := by omega
      have hk20 : k < 20 := by omega
      have hc1 : wr.cell? ⟨w1.heap.size, k, none⟩ = some (.int .i64 0) := by rw [Arr.box_cell HM k (by rw [vec20_length]; exact hk20), vec20_at _ _ hk20, if_neg (Nat.lt_irrefl k)]
      have hf1 : wr.frozen? ⟨w1.heap.size, k, none⟩ = false := blk_frozen HM k
      go_wp2_with fail
      go_roundw
      case rel =>
        refine ⟨k + 1, hlt, by go_num, ?_, ⟨HB1.out.setCell (Nat.le_refl _) _⟩⟩
        have := Arr.box_set HM k h
        rw [vec20_set, vec20_congr _ (fun d => if d < k + 1 then h else 0)] at this
        · exact this
        · intro i hi
          by_cases h1 : i = k
          · rw [if_pos h1, if_pos (by omega)]
          · rw [if_neg h1]
            by_cases h2 : i < k
            · rw [if_pos h2, if_pos (by omega)]
            · rw [if_neg h2, if_neg (by omega)]
      case measure => simp [intOf]; omega
    · have q0 : ¬ (k : Int) < D := by omega
      obtain rfl : D = k := by omega
      have HM0 : wr.heap[w1.heap.size]? = some (.cells (Arr.ints .i64 (vec20 (freeOn h D (l3.take 0)))) 59 (0, 0)) := by
        rw [HM]
        congr 3
        apply vec20_congr
        intro i hi
        unfold freeOn dayCount
        rw [List.take_zero, List.count_nil]
        by_cases hx : i < D
        · rw [if_pos hx, if_pos (by omega)]; simp
        · rw [if_neg hx, if_neg (by omega)]; simp
      have HM1 := Aside0.mk HM0
      clear HM HM0
      go_wp2_with fail
      go_loopw [12] (fun i wr => ∃ k : Nat, k ≤ l3.length ∧ i = .int .i64 k ∧ wr.heap[w1.heap.size]? = some (.cells (Arr.ints .i64 (vec20 (freeOn h D (l3.take k)))) 59 (0, 0)) ∧ Aside0 (Below w1.heap.size w1 wr)) (fun i _ => l3.length - (intOf i).toNat)
      case atStart => exact ⟨0, Nat.zero_le _, rfl, HM1.out, HB1⟩
      case round =>
        rename_i _ wr0 _ _
        clear HM1 HB1
        obtain ⟨k, hk, rfl, HM, HB1⟩ := hrel
        by_cases hlt : k < l3.length
        · have p0 : (0 : Int) ≤ (k : Int) := by omega
          have q0 : (k : Int) < l3.length := by omega
          obtain ⟨ad, ea, hx0⟩ := Kd.at_int HR3.out k p0 q0
          cases ea
          replace hx0 := ((HB.out.trans (HB1.out.mono HB.out.size)).cell (World.block_lt_of_cell? w _ hx0)).trans hx0
          have HTK := Aside0.mk (show l3.take (k + 1) = l3.take k ++ [rd l3 k] by rw [List.take_succ_eq_append_getElem hlt]; simp [rd, hlt])
          have hmem : -1 ≤ rd l3 k ∧ rd l3 k ≤ 19 := hpre.out.2.2.2.2.2.2.2 _ (by simp [rd, hlt])
          obtain ⟨d, HD⟩ : ∃ d, Aside0 (rd l3 k = d) := ⟨_, ⟨rfl⟩⟩
          rw [HD.out] at hx0 HTK hmem
          rw [Int.toNat_natCast] at hx0
          by_cases hd : 0 ≤ d
          · obtain ⟨m, rfl⟩ : ∃ m : Nat, d = m := ⟨d.toNat, by omega⟩
            have hm : m < 20 := by omega
            have hm1 : (m : Int) < 20 := by omega
            have hc1 : wr.cell? ⟨w1.heap.size, m, none⟩ = some (.int .i64 (freeOn h D (l3.take k) m)) := by rw [Arr.box_cell HM m (by rw [vec20_length]; exact hm), vec20_at _ _ hm]
            have hf1 : wr.frozen? ⟨w1.heap.size, m, none⟩ = false := blk_frozen HM m
            have hcb : -100 ≤ freeOn h D (l3.take k) m ∧ freeOn h D (l3.take k) m ≤ 100 := by
              have : (l3.take k).count (m : Int) ≤ (l3.take k).length := List.count_le_length
              rw [List.length_take] at this
              have h1 := hpre.out.2.2.2.2.1
              have h2 := hpre.out.2.2.2.2.2.1
              unfold freeOn dayCount
              split <;> omega
            go_wp2_with fail
            go_roundw
            case rel =>
              refine ⟨k + 1, hlt, by go_num, ?_, ⟨HB1.out.setCell (Nat.le_refl _) _⟩⟩
              have := Arr.box_set HM m (freeOn h D (l3.take k) m - 1)
              rw [vec20_set, vec20_congr _ (freeOn h D (l3.take (k + 1)))] at this
              · exact this
              · intro i hi
                rw [HTK.out]
                unfold freeOn dayCount
                rw [List.count_append, List.count_singleton]
                by_cases h1 : i = m
                · subst h1; simp; omega
                · have : ¬ ((m : Int) = (i : Int)) := by omega
                  simp [h1, this]
            case measure => simp [intOf]; omega
          · have hd1 : d < 0 := by omega
            go_wp2_with fail
            go_roundw
            case rel =>
              refine ⟨k + 1, hlt, by go_num, ?_, HB1⟩
              rw [HM]
              congr 3
              apply vec20_congr
              intro i hi
              rw [HTK.out]
              unfold freeOn dayCount
              have : ¬ (d = (i : Int)) := by omega
              simp [List.count_append, List.count_singleton, this]
            case measure => simp [intOf]; omega
        · have q0 : ¬ (k : Int) < l3.length := by omega
          obtain rfl : l3.length = k := by omega
          rw [List.take_length] at HM
          have HM1 := Aside0.mk HM
          clear HM
          go_wp2_with (first | ((with_reducible refine gate_dst (N := 13) rfl ?_); refine Arr.wpList_allocTo rfl 72 rfl (some 13) rfl zero64 zero64_at ?_) | (refine Arr.wpList_storeNew rfl 72 (.tmp 13) (.tmp 56) rfl rfl zero64 zero64 zero64_at.size zero64_at.ones rfl _ rfl rfl ?_))
          obtain ⟨wb, rfl⟩ : ∃ wb : World, wb = wr := ⟨_, rfl⟩
          have hgb : w1.heap.size < wb.heap.size := by have := Array.getElem?_eq_some_iff.1 HM1.out; exact this.1
          go_loopw [15] (fun i wq => ∃ j : Nat, j ≤ D ∧ i = .int .i64 ((D : Int) - 1 - j) ∧ wq.heap[wb.heap.size]? = some (.cells (Arr.ints .i64 (vec (dayB rest (freeOn h D l3) D j))) 72 (0, 0)) ∧ wq.heap[w1.heap.size]? = some (.cells (Arr.ints .i64 (vec20 (freeOn h D l3))) 59 (0, 0)) ∧ Aside0 (Below w1.heap.size w1 wq)) (fun i _ => (intOf i + 1).toNat)
          case atStart => exact ⟨0, Nat.zero_le _, by show Value.int _ _ = _; congr 1; omega, heap_alloc_last wb _, (Below.heap_alloc wb _ _ hgb).trans HM1.out, ⟨HB1.out.alloc (by omega) _⟩⟩
          case round =>
            clear HM1 HB1
            obtain ⟨j, hj, hi, HM, HF, HB1⟩ := hrel
            by_cases hlt : j < D
            · obtain ⟨d, hd⟩ : ∃ d : Nat, (D : Int) - 1 - j = d := ⟨D - 1 - j, by omega⟩
              rw [hd] at hi
              subst hi
              have hd20 : d < 20 := by omega
              obtain ⟨W, HW⟩ : ∃ W : Nat → Int, Aside0 (W = fun T => bitW rest d T n) := ⟨_, ⟨rfl⟩⟩
              have hgr : wb.heap.size < wr.heap.size := by have := Array.getElem?_eq_some_iff.1 HM; exact this.1
              go_wp2_with (first | ((with_reducible refine gate_dst (N := 16) rfl ?_); refine Arr.wpList_allocTo rfl 72 rfl (some 16) rfl zero64 zero64_at ?_) | (refine Arr.wpList_storeNew rfl 72 (.tmp 16) (.tmp 67) rfl rfl zero64 zero64 zero64_at.size zero64_at.ones rfl _ rfl rfl ?_))
              obtain ⟨wc, rfl⟩ : ∃ wc : World, wc = wr := ⟨_, rfl⟩
              go_loopw [17] (fun i wq => ∃ T : Nat, 1 ≤ T ∧ T ≤ all ∧ i = .int .i64 T ∧ wq.heap[wc.heap.size]? = some (.cells (Arr.ints .i64 (vec fun s => if s < T then W s else 0)) 72 (0, 0)) ∧ Aside0 (Below wc.heap.size wc wq)) (fun i _ => all - (intOf i).toNat)
              case atStart =>
                refine ⟨1, Nat.le_refl _, by omega, rfl, ?_, ⟨(Below.refl _ wc).alloc (Nat.le_refl _) _⟩⟩
                rw [heap_alloc_last wc _]
                show some (Obj.cells (Arr.ints .i64 (List.replicate 64 0)) _ _) = _
                rw [vec_zero]
                congr 3
                apply vec_congr
                intro i hi
                by_cases h1 : i < 1
                · obtain rfl : i = 0 := by omega
                  rw [if_pos h1, HW.out]
                  exact (bitW_zero rest d n).symm
                · rw [if_neg h1]
              case round =>
                obtain ⟨T, hT1, hT2, rfl, HV, HB2⟩ := hrel
                by_cases hTl : T < all
                · have p0 : (0 : Int) ≤ (T : Int) := by omega
                  have q0 : (T : Int) < all := by omega
                  go_wp2_with fail
                  obtain ⟨wd, rfl⟩ : ∃ wd : World, wd = wr := ⟨_, rfl⟩
                  go_loopw [18] (fun i wq => ∃ m : Nat, m ≤ n ∧ i = .int .i64 m ∧ wq.heap[wc.heap.size]? = some (.cells (Arr.ints .i64 (vec fun s => if s < T then W s else if s = T then bitW rest d T m else 0)) 72 (0, 0)) ∧ Aside0 (Below wc.heap.size wc wq)) (fun i _ => n - (intOf i).toNat)
                  case atStart =>
                    refine ⟨0, Nat.zero_le _, rfl, ?_, HB2⟩
                    rw [HV]
                    congr 3
                    apply vec_congr
                    intro i hi
                    by_cases h1 : i < T
                    · rw [if_pos h1, if_pos h1]
                    · rw [if_neg h1, if_neg h1]
                      split <;> rfl
                  case round =>
                    clear HV HB2
                    obtain ⟨m, hm, rfl, HV, HB2⟩ := hrel
                    by_cases hmn : m < n
                    · have p1 : (0 : Int) ≤ (m : Int) := by omega
                      have q1 : (m : Int) < n := by omega
                      have hT64 : T < 64 := by omega
                      have hask := bit_ask T m (by omega)
                      cases hbit : T.testBit m with
                      | true =>
                        --<<
                        rw [hbit, if_pos rfl] at hask
                        have hb1 : (bits .and .i64 ((T : Int) / 2 ^ m) 1 == 1) = true := by rw [hask]; rfl
                        clear hask
                        obtain ⟨x, HX⟩ : ∃ x, Aside0 (rest.getD m z40 = x) := ⟨_, ⟨rfl⟩⟩
                        have hxk : plotOk x = true := by rw [← HX.out]; exact getD_ok rest (by rw [HRE.out]; intro y hy; exact hpre.out.2.1 y (List.mem_of_mem_drop hy)) m
                        have HWV := Aside0.mk (spec_worth_f x d hxk (by omega) (by omega))
                        have hv0 := pw_nonneg x d
                        have hv1 := pw_le x d hxk
                        obtain ⟨v, HVV⟩ : ∃ v, Aside0 (pw x d = v) := ⟨_, ⟨rfl⟩⟩
                        rw [HVV.out] at hv0 hv1 HWV
                        obtain ⟨cur, HCU⟩ : ∃ c, Aside0 (bitW rest d T m = c) := ⟨_, ⟨rfl⟩⟩
                        have hcu := bitW_bound rest (by rw [HRE.out]; intro y hy; exact hpre.out.2.1 y (List.mem_of_mem_drop hy)) d T m
                        rw [HCU.out] at hcu
                        obtain ⟨hcu0, hcu1⟩ := hcu
                        have hcu2 : cur ≤ 6000 := by omega
                        clear hcu1 hxk
                        obtain ⟨ad, ea, hx0, hx1, hx2, hx3⟩ := at_T40 HR.out m p1 q1
                        cases ea
                        have HBW := HB1.out.trans (HB2.out.mono HB1.out.size)
                        replace hx0 := (HBW.cell (World.block_lt_of_cell? w1 _ hx0)).trans hx0
                        replace hx1 := (HBW.cell (World.block_lt_of_cell? w1 _ hx1)).trans hx1
                        replace hx2 := (HBW.cell (World.block_lt_of_cell? w1 _ hx2)).trans hx2
                        replace hx3 := (HBW.cell (World.block_lt_of_cell? w1 _ hx3)).trans hx3
                        rw [show rd_T40 rest (m : Int) = x by unfold rd_T40; rw [Int.toNat_natCast]; exact HX.out] at hx0 hx1 hx2 hx3
                        simp only [Int.toNat_natCast] at hx0 hx1 hx2 hx3
                        have hc1 : wr.cell? ⟨wc.heap.size, T, none⟩ = some (.int .i64 cur) := by rw [Arr.box_cell HV T (by rw [vec_length]; exact hT64), vec_at _ _ hT64, if_neg (Nat.lt_irrefl T), if_pos rfl, HCU.out]
                        have hf1 : wr.frozen? ⟨wc.heap.size, T, none⟩ = false := blk_frozen HV T
                        have q2 : (T : Int) < 64 := by omega
                        have hlv : wc.heap.size < wr.heap.size := (Array.getElem?_eq_some_iff.1 HV).1
                        go_wp2_with fail
                        go_region_with ((go_at_call 35; refine (spec_l07Worth.calls x.f0 x.f1 x.f2 x.f3 d v _ HWV.out).mono ?_; rintro e w' ⟨rfl, hb⟩; have hcA := pw_cell_below hb (show World.cell? _ _ = _ from hc1); have hfA := (hb.frozen (p := ⟨wc.heap.size, T, none⟩) (World.block_lt_of_cell? _ ⟨wc.heap.size, T, none⟩ (show World.cell? _ _ = _ from hc1))).trans hf1; have hxA := pw_cell_below hb (show World.cell? _ _ = _ from hx0); have hxB := pw_cell_below hb (show World.cell? _ _ = _ from hx1); have hxC := pw_cell_below hb (show World.cell? _ _ = _ from hx2); have hxD := pw_cell_below hb (show World.cell? _ _ = _ from hx3); have hvA := Aside0.mk ((hb.block wc.heap.size hlv).trans HV); have HB3 := Aside0.mk (below_step (by repeat (first | (with_reducible first | exact HB2.out | apply below_alloc | apply pw_below_drewN | apply below_drew1) | exact HB2.out)) hb); clear hb))
                        all_goals
                          go_wp2_with fail
                          go_roundw
                          case rel =>
                            refine ⟨m + 1, by omega, by go_num, ?_, ⟨?_⟩⟩
                            · have hs := Arr.box_set hvA.out T (cur + v)
                              rw [vec_set, vec_congr _ (fun s => if s < T then W s else if s = T then bitW rest d T (m + 1) else 0)] at hs
                              · exact hs
                              · intro i hi
                                by_cases h1 : i = T
                                · subst h1
                                  rw [if_pos rfl, if_neg (Nat.lt_irrefl i), if_pos rfl, bitW, HCU.out, hbit, if_pos rfl, HX.out, HVV.out]
                                · simp [h1]
                            · refine Below.setCell ?_ (by show wc.heap.size ≤ wc.heap.size; exact Nat.le_refl _) _
                              repeat (first | (with_reducible first | exact HB3.out | apply below_alloc | apply pw_below_drewN | apply below_drew1) | exact HB3.out)
                          case measure => simp [intOf]; omega
                        -->>
                      | false =>
                        --<<
                        rw [hbit, if_neg (by simp)] at hask
                        have hb1 : (bits .and .i64 ((T : Int) / 2 ^ m) 1 == 1) = false := by rw [hask]; rfl
                        clear hask
                        go_wp2_with fail
                        go_roundw
                        case rel =>
                          refine ⟨m + 1, by omega, by go_num, ?_, HB2⟩
                          rw [HV]
                          congr 3
                          apply vec_congr
                          intro i hi
                          rw [bitW, hbit]
                          simp
                        case measure => simp [intOf]; omega
                        -->>
                    · have q1 : ¬ (m : Int) < n := by omega
                      --<<
                      obtain rfl : n = m := by omega
                      go_wp2_with fail
                      go_roundw
                      case rel =>
                        refine ⟨T + 1, by omega, hTl, by go_num, ?_, HB2⟩
                        rw [HV]
                        congr 3
                        apply vec_congr
                        intro i hi
                        by_cases h1 : i < T
                        · rw [if_pos h1, if_pos (by omega)]
                        · rw [if_neg h1]
                          by_cases h2 : i = T
                          · rw [if_pos h2, if_pos (by omega), HW.out, h2]
                          · rw [if_neg h2, if_neg (by omega)]
                      case measure => simp [intOf]; omega
                      -->>
                · have q0 : ¬ (T : Int) < all := by omega
                  obtain rfl : all = T := by omega
                  have HMr : wr.heap[wb.heap.size]? = some (.cells (Arr.ints .i64 (vec (dayB rest (freeOn h D l3) D j))) 72 (0, 0)) := (HB2.out.block _ hgr).trans HM
                  have HFr : wr.heap[w1.heap.size]? = some (.cells (Arr.ints .i64 (vec20 (freeOn h D l3))) 59 (0, 0)) := (HB2.out.block _ (by omega)).trans HF
                  have HB3 := Aside0.mk (HB1.out.trans (HB2.out.mono HB1.out.size))
                  have hglt : wc.heap.size < wr.heap.size := (Array.getElem?_eq_some_iff.1 HV).1
                  clear HB2 HB1 HM HF
                  obtain ⟨nx, HNX⟩ : ∃ nx : Nat → Int, Aside0 (nx = dayB rest (freeOn h D l3) D j) := ⟨_, ⟨rfl⟩⟩
                  rw [← HNX.out] at HMr
                  obtain ⟨cb, HCB⟩ : ∃ cb, Aside0 (cb = Arr.ints .i64 (vec nx)) := ⟨_, ⟨rfl⟩⟩
                  rw [← HCB.out] at HMr
                  have hcbs : cb.size = 64 := by rw [HCB.out, Arr.ints_size, vec_length]
                  have HCS := Aside0.mk hcbs
                  have hcbi : (Try.prog.info? 72).map (·.size) = some cb.size := by rw [hcbs]; exact zero64_at.size
                  have HCI := Aside0.mk hcbi
                  have HCO : Aside0 (cb.all (·.oneCell') = true) := ⟨by rw [HCB.out]; exact Arr.ints_ones _ _⟩
                  have HMR := Aside0.mk HMr
                  have HFR := Aside0.mk HFr
                  have HVR := Aside0.mk HV
                  clear hcbi hcbs HMr HFr HV
                  go_wp2_with (first | ((with_reducible refine gate_dst (N := 96) rfl ?_); refine wpList_load_row rfl 72 (.tmp 13) rfl wb.heap.size rfl 72 cb (0, 0) _ HMR.out Try.underlying72 rfl HCI.out ?_) | ((with_reducible refine gate_dst (N := 19) rfl ?_); refine Arr.wpList_allocTo rfl 72 rfl (some 19) rfl zero64 zero64_at ?_) | (refine Arr.wpList_storeNew rfl 72 (.tmp 19) (.tmp 96) rfl rfl cb zero64 HCI.out HCO.out (by rw [HCS.out]; rfl) _ rfl rfl ?_))
                  have HWO := HW
                  have HNXO := HNX
                  clear HCS HCI HCO HW
                  obtain ⟨wn, rfl⟩ : ∃ wn : World, wn = wr := ⟨_, rfl⟩
                  obtain ⟨fr, HFRE⟩ : ∃ fr : Nat → Int, Aside0 (fr = freeOn h D l3) := ⟨_, ⟨rfl⟩⟩
                  rw [← HFRE.out] at HFR
                  go_loopw [20] (fun i wq => ∃ T : Nat, 1 ≤ T ∧ T ≤ all ∧ i = .int .i64 T ∧ wq.heap[wb.heap.size]? = some (.cells (Arr.ints .i64 (vec fun s => if s < all then tryB W nb6 (fr d) nx (T - 1) s else 0)) 72 (0, 0)) ∧ wq.heap[wn.heap.size]? = some (.cells (Arr.ints .i64 (vec nx)) 72 (0, 0)) ∧ wq.heap[wc.heap.size]? = some (.cells (Arr.ints .i64 (vec fun s => if s < all then W s else 0)) 72 (0, 0)) ∧ wq.heap[w1.heap.size]? = some (.cells (Arr.ints .i64 (vec20 fr)) 59 (0, 0)) ∧ Aside0 (Below w1.heap.size w1 wq)) (fun i _ => all - (intOf i).toNat)
                  case atStart =>
                    refine ⟨1, Nat.le_refl _, by omega, rfl, ?_, ?_, ?_, ?_, ⟨HB3.out.alloc HB3.out.size _⟩⟩
                    · rw [Below.heap_alloc wn _ _ (by omega), HMR.out, HCB.out]
                      congr 3
                      apply vec_congr
                      intro i hi
                      show nx i = if i < all then nx i else 0
                      by_cases h1 : i < all
                      · rw [if_pos h1]
                      · rw [if_neg h1, HNX.out]
                        rcases j with _ | j
                        · rfl
                        · rw [dayB, if_neg (by rw [← HN.out, ← HALL.out]; exact h1)]
                    · rw [heap_alloc_last wn _, HCB.out]
                    · rw [Below.heap_alloc wn _ _ (by omega)]; exact HVR.out
                    · rw [Below.heap_alloc wn _ _ (by omega)]; exact HFR.out
                  case round =>
                    --<<
                    clear HMR HFR HVR HB3 HNX
                    obtain ⟨T, hT1, hT2, rfl, HM, HX, HV, HF, HB1⟩ := hrel
                    by_cases hTl : T < all
                    · have p0 : (0 : Int) ≤ (T : Int) := by omega
                      have q0 : (T : Int) < all := by omega
                      have hT64 : T < 64 := by omega
                      have q64 : (T : Int) < 64 := by omega
                      have d0 : (0 : Int) ≤ (d : Int) := by omega
                      have d20 : (d : Int) < 20 := by omega
                      have hcF : wr.cell? ⟨w1.heap.size, d, none⟩ = some (.int .i64 (fr d)) := by rw [Arr.box_cell HF d (by rw [vec20_length]; exact hd20), vec20_at _ _ hd20]
                      have hcV : wr.cell? ⟨wc.heap.size, T, none⟩ = some (.int .i64 (W T)) := by rw [Arr.box_cell HV T (by rw [vec_length]; exact hT64), vec_at _ _ hT64, if_pos hTl]
                      have HBF := Aside0.mk (bits_f T hT64)
                      by_cases hbf : nb6 T ≤ fr d
                      · have hb1 : decide (fr d < nb6 T) = false := decide_eq_false (by omega)
                        have HBFR := Aside0.mk hbf
                        clear hbf
                        by_cases hW0 : W T = 0
                        · have hb2 : (W T == 0) = true := by rw [hW0]; rfl
                          have HW0 := Aside0.mk hW0
                          clear hW0
                          go_wp2_with fail
                          go_quiet ((go_at_call 54; exact Calls.quiet_of ((Pb.spec_l07Bits.calls 8 T (nb6 T) _ HBF.out).mono fun _ _ hh => ⟨hh.1, hh.2.out⟩)))
                          go_wp2_with fail
                          go_roundw
                          case rel =>
                            refine ⟨T + 1, by omega, hTl, by go_num, ?_, HX, HV, HF, ⟨pw_below_drewN HB1.out _⟩⟩
                            refine Eq.trans HM ?_
                            congr 3
                            apply vec_congr
                            intro i hi
                            rw [show T + 1 - 1 = T by omega, tryB_skip _ _ _ _ _ _ hT1 (fun hh => hh.1.2 HW0.out)]
                          case measure => simp [intOf]; omega
                        · have hb2 : (W T == 0) = false := by simpa using hW0
                          have HW0 := Aside0.mk hW0
                          clear hW0
                          have hWB : 0 ≤ W T ∧ W T ≤ 6000 := by
                            have := bitW_bound rest (by rw [HRE.out]; intro y hy; exact hpre.out.2.1 y (List.mem_of_mem_drop hy)) d T n
                            have e : W T = bitW rest d T n := by rw [HWO.out]
                            rw [e]
                            omega
                          obtain ⟨hW1, hW2⟩ := hWB
                          go_wp2_with fail
                          go_quiet ((go_at_call 54; exact Calls.quiet_of ((Pb.spec_l07Bits.calls 8 T (nb6 T) _ HBF.out).mono fun _ _ hh => ⟨hh.1, hh.2.out⟩)))
                          go_wp2_with fail
                          obtain ⟨we, HWE⟩ : ∃ we : World, Aside0 (we = wr.drewN nq) := ⟨_, ⟨rfl⟩⟩
                          rw [← HWE.out]
                          replace HM : we.heap[wb.heap.size]? = some (.cells (Arr.ints .i64 (vec fun s => if s < all then tryB W nb6 (fr d) nx (T - 1) s else 0)) 72 (0, 0)) := by rw [HWE.out]; exact HM
                          replace HX : we.heap[wn.heap.size]? = some (.cells (Arr.ints .i64 (vec nx)) 72 (0, 0)) := by rw [HWE.out]; exact HX
                          replace HV : we.heap[wc.heap.size]? = some (.cells (Arr.ints .i64 (vec fun s => if s < all then W s else 0)) 72 (0, 0)) := by rw [HWE.out]; exact HV
                          replace HF : we.heap[w1.heap.size]? = some (.cells (Arr.ints .i64 (vec20 fr)) 59 (0, 0)) := by rw [HWE.out]; exact HF
                          replace HB1 : Aside0 (Below w1.heap.size w1 we) := ⟨by rw [HWE.out]; exact pw_below_drewN HB1.out _⟩
                          clear HWE hcF hcV
                          go_loopw [21] (fun i wq => ∃ x : Nat, T ≤ x ∧ x ≤ all ∧ i = .int .i64 x ∧ wq.heap[wb.heap.size]? = some (.cells (Arr.ints .i64 (vec fun s => if s < all then (if s < x then tryB W nb6 (fr d) nx T s else tryB W nb6 (fr d) nx (T - 1) s) else 0)) 72 (0, 0)) ∧ wq.heap[wn.heap.size]? = some (.cells (Arr.ints .i64 (vec nx)) 72 (0, 0)) ∧ wq.heap[wc.heap.size]? = some (.cells (Arr.ints .i64 (vec fun s => if s < all then W s else 0)) 72 (0, 0)) ∧ wq.heap[w1.heap.size]? = some (.cells (Arr.ints .i64 (vec20 fr)) 59 (0, 0)) ∧ Aside0 (Below w1.heap.size w1 wq)) (fun i _ => all - (intOf i).toNat)
                          case atStart =>
                            refine ⟨T, Nat.le_refl _, hT2, rfl, ?_, HX, HV, HF, HB1⟩
                            rw [HM]
                            congr 3
                            apply vec_congr
                            intro i hi
                            by_cases h1 : i < T
                            · rw [if_pos h1, tryB_skip _ _ _ _ _ _ hT1 (fun hh => ndiff_lt _ _ h1 hh.2)]
                            · rw [if_neg h1]
                          case round =>
                            clear HM HX HV HF HB1
                            obtain ⟨x, hx1, hx2, rfl, HM, HX, HV, HF, HB1⟩ := hrel
                            by_cases hxl : x < all
                            · have p1 : (0 : Int) ≤ (x : Int) := by omega
                              have q1 : (x : Int) < all := by omega
                              have hx64 : x < 64 := by omega
                              have x64 : (x : Int) < 64 := by omega
                              by_cases hz : ndiff T x = 0
                              · have ha1 : (bits .andNot .i64 (T : Int) (x : Int)) = 0 := by rw [bits_andNot T x (by omega) (by omega), hz]; rfl
                                obtain ⟨y, HY⟩ : ∃ y, Aside0 (ndiff x T = y) := ⟨_, ⟨rfl⟩⟩
                                have ha2 : (bits .andNot .i64 (x : Int) (T : Int)) = (y : Int) := by rw [bits_andNot x T (by omega) (by omega), HY.out]
                                have hyx : y ≤ x := by have := ndiff_le x T; rw [HY.out] at this; exact this
                                have hy64 : y < 64 := by omega
                                have y0 : (0 : Int) ≤ (y : Int) := by omega
                                have y64 : (y : Int) < 64 := by omega
                                have HZ := Aside0.mk hz
                                clear hz
                                obtain ⟨b0, HB0⟩ : ∃ b0, Aside0 (tryB W nb6 (fr d) nx (T - 1) x = b0) := ⟨_, ⟨rfl⟩⟩
                                have hcM : wr.cell? ⟨wb.heap.size, x, none⟩ = some (.int .i64 b0) := by rw [Arr.box_cell HM x (by rw [vec_length]; exact hx64), vec_at _ _ hx64, if_pos hxl, if_neg (Nat.lt_irrefl x), HB0.out]
                                have hfM : wr.frozen? ⟨wb.heap.size, x, none⟩ = false := blk_frozen HM x
                                have hcV : wr.cell? ⟨wc.heap.size, T, none⟩ = some (.int .i64 (W T)) := by rw [Arr.box_cell HV T (by rw [vec_length]; exact hT64), vec_at _ _ hT64, if_pos hTl]
                                have hcX : wr.cell? ⟨wn.heap.size, y, none⟩ = some (.int .i64 (nx y)) := by rw [Arr.box_cell HX y (by rw [vec_length]; exact hy64), vec_at _ _ hy64]
                                have hnx := dayB_bound rest (by rw [HRE.out]; intro z hz; exact hpre.out.2.1 z (List.mem_of_mem_drop hz)) (by rw [← HN.out]; exact hn6) (freeOn h D l3) D j y
                                rw [← HNXO.out] at hnx
                                obtain ⟨hn1, hn2⟩ := hnx
                                have hn3 : nx y ≤ 200000 := by omega
                                obtain ⟨rm, HRM⟩ : ∃ rm, Aside0 ((if b0 > W T + nx y then b0 else W T + nx y) = rm) := ⟨_, ⟨rfl⟩⟩
                                have HMX := Aside0.mk (spec_max_f b0 (W T + nx y))
                                rw [HRM.out] at HMX
                                have hwr : IntKind.i64.wrap (W T + nx y) = W T + nx y := IntWalk.i64_in _ (by omega)
                                clear hn2
                                go_wp2_with fail
                                --<<
                                go_region_with ((go_at_call 51; refine (spec_l00Max.calls b0 (W T + nx y) rm _ HMX.out).mono ?_; rintro e w' ⟨rfl, nd, rfl⟩))
                                all_goals
                                  go_wp2_with fail
                                  go_roundw
                                  case rel =>
                                    refine ⟨x + 1, by omega, by omega, by go_num, ?_, ?_, ?_, ?_, ⟨?_⟩⟩
                                    · have hs := Arr.box_set HM x rm
                                      rw [vec_set, vec_congr _ (fun s => if s < all then (if s < x + 1 then tryB W nb6 (fr d) nx T s else tryB W nb6 (fr d) nx (T - 1) s) else 0)] at hs
                                      · exact hs
                                      · intro i hi
                                        by_cases h1 : i = x
                                        · subst h1
                                          rw [if_pos rfl, if_pos hxl, if_pos (by omega), tryB_step _ _ _ _ _ _ hT1, if_pos ⟨⟨HBFR.out, HW0.out⟩, HZ.out⟩, HB0.out, HY.out, HRM.out]
                                        · rw [if_neg h1]
                                          by_cases h0 : i < all
                                          · rw [if_pos h0, if_pos h0]
                                            by_cases h2 : i < x
                                            · rw [if_pos h2, if_pos (by omega)]
                                            · rw [if_neg h2, if_neg (by omega)]
                                          · rw [if_neg h0, if_neg h0]
                                    · exact (Below.heap_setCell _ _ _ _ (by show wn.heap.size ≠ wb.heap.size; omega)).trans HX
                                    · exact (Below.heap_setCell _ _ _ _ (by show wc.heap.size ≠ wb.heap.size; omega)).trans HV
                                    · exact (Below.heap_setCell _ _ _ _ (by show w1.heap.size ≠ wb.heap.size; omega)).trans HF
                                    · refine Below.setCell ?_ (by show w1.heap.size ≤ wb.heap.size; omega) _
                                      repeat (first | (with_reducible first | exact HB1.out | apply below_alloc | apply pw_below_drewN | apply below_drew1) | exact HB1.out)
                                  case measure => simp [intOf]; omega
                                -->>
                              · have ha1 : (bits .andNot .i64 (T : Int) (x : Int) == 0) = false := by
                                  rw [bits_andNot T x (by omega) (by omega)]
                                  have : ¬ ((ndiff T x : Nat) : Int) = 0 := by omega
                                  simpa using this
                                have HZ := Aside0.mk hz
                                clear hz
                                go_wp2_with fail
                                go_roundw
                                case rel =>
                                  refine ⟨x + 1, by omega, by omega, by go_num, ?_, HX, HV, HF, HB1⟩
                                  rw [HM]
                                  congr 3
                                  apply vec_congr
                                  intro i hi
                                  by_cases h0 : i < all
                                  · rw [if_pos h0, if_pos h0]
                                    by_cases h1 : i < x
                                    · rw [if_pos h1, if_pos (by omega)]
                                    · rw [if_neg h1]
                                      by_cases h2 : i = x
                                      · subst h2
                                        rw [if_pos (by omega), tryB_skip _ _ _ _ _ _ hT1 (fun hh => HZ.out hh.2)]
                                      · rw [if_neg (by omega)]
                                  · rw [if_neg h0, if_neg h0]
                                case measure => simp [intOf]; omega
                            · have q1 : ¬ (x : Int) < all := by omega
                              obtain rfl : all = x := by omega
                              go_wp2_with fail
                              go_roundw
                              case rel =>
                                refine ⟨T + 1, by omega, hTl, by go_num, ?_, HX, HV, HF, HB1⟩
                                rw [HM]
                                congr 3
                                apply vec_congr
                                intro i hi
                                by_cases h1 : i < all
                                · rw [if_pos h1, if_pos h1, if_pos h1]; rfl
                                · rw [if_neg h1, if_neg h1]
                              case measure => simp [intOf]; omega
                      · have hb1 : decide (fr d < nb6 T) = true := decide_eq_true (by omega)
                        have HBFR := Aside0.mk hbf
                        clear hbf
                        go_wp2_with fail
                        go_quiet ((go_at_call 54; exact Calls.quiet_of ((Pb.spec_l07Bits.calls 8 T (nb6 T) _ HBF.out).mono fun _ _ hh => ⟨hh.1, hh.2.out⟩)))
                        go_wp2_with fail
                        go_roundw
                        case rel =>
                          refine ⟨T + 1, by omega, hTl, by go_num, ?_, HX, HV, HF, ⟨pw_below_drewN HB1.out _⟩⟩
                          refine Eq.trans HM ?_
                          congr 3
                          apply vec_congr
                          intro i hi
                          rw [show T + 1 - 1 = T by omega, tryB_skip _ _ _ _ _ _ hT1 (fun hh => absurd hh.1.1 (by have := HBFR.out; omega))]
                        case measure => simp [intOf]; omega
                    · have q0 : ¬ (T : Int) < all := by omega
                      obtain rfl : all = T := by omega
                      go_wp2_with fail
                      go_roundw
                      case rel =>
                        refine ⟨j + 1, hlt, by show Value.int _ _ = _; congr 1; omega, ?_, by rw [← HFRE.out]; exact HF, HB1⟩
                        rw [HM]
                        congr 3
                        apply vec_congr
                        intro i hi
                        rw [dayB, ← HN.out, ← HALL.out, ← HNXO.out, ← HFRE.out, HWO.out, show D - 1 - j = d by omega]
                      case measure => simp [intOf] <;> omega
                    -->>
            · have hj1 : (D : Int) - 1 - j = -1 := by omega
              rw [hj1] at hi
              subst hi
              obtain rfl : D = j := by omega
              obtain ⟨e, he⟩ : ∃ e : Nat, (all : Int) - 1 = e := ⟨all - 1, by omega⟩
              have hew : IntKind.i64.wrap ((all : Int) - 1) = (e : Int) := by rw [he]; exact IntWalk.i64_in _ (by omega)
              have he0 : (0 : Int) ≤ (e : Int) := by omega
              have he64 : (e : Int) < 64 := by omega
              have hb := dayB_bound rest (by rw [HRE.out]; intro z hz; exact hpre.out.2.1 z (List.mem_of_mem_drop hz)) (by rw [← HN.out]; exact hn6) (freeOn h D l3) D D e
              obtain ⟨bv, HBV⟩ : ∃ bv, Aside0 (dayB rest (freeOn h D l3) D D e = bv) := ⟨_, ⟨rfl⟩⟩
              rw [HBV.out] at hb
              obtain ⟨hb1, hb2⟩ := hb
              have hcM : wr.cell? ⟨wb.heap.size, e, none⟩ = some (.int .i64 bv) := by rw [Arr.box_cell HM e (by rw [vec_length]; omega), vec_at _ _ (by omega), HBV.out]
              have hps := planSum_bound (l0.take l3.length) (fun y hy => hpre.out.2.1 y (List.mem_of_mem_take hy)) l3
              obtain ⟨ps, HPS⟩ : ∃ ps, Aside0 (planSum (l0.take l3.length) l3 = ps) := ⟨_, ⟨rfl⟩⟩
              rw [HPS.out, List.length_take] at hps
              obtain ⟨hp1, hp2⟩ := hps
              have hp3 : ps ≤ 6000 := by omega
              have hb3 : bv ≤ 120000 := by omega
              clear hb2 hp2
              have HS : Aside0 (∀ X : World, Below w.heap.size w X → Calls Try.prog 31 #[.slice A0 l3.length c0, .slice A3 l3.length c3] X fun e w' => e = .returned (.int .i64 ps) ∧ Below X.heap.size X w') := ⟨fun X hX => by
                have hlt : l3.length ≤ l0.length := by omega
                have h1 := Kd.C_below HR0.out hX
                have h2 := Kd.C_take h1 hlt
                have := spec_l07Sum.calls (l3.length + 1) A0 c0 (l0.take l3.length) A3 c3 l3 ps X h2 (by rw [List.length_take]; omega) (Kd.C_below HR3.out hX) HC3.out (by
                  rw [spec_sum_f _ (fun y hy => hpre.out.2.1 y (List.mem_of_mem_take hy)) l3 hpre.out.2.2.2.2.2.2.2 (by rw [List.length_take]; omega) (by rw [List.length_take]; omega) _ (Nat.lt_succ_self _), HPS.out])
                rw [List.length_take, Nat.min_eq_left hlt] at this
                exact this⟩
              have HBB := Aside0.mk (HB.out.trans (HB1.out.mono HB.out.size))
              clear HM HF HB1 HB
              have hws : IntKind.i64.wrap (bv + ps) = bv + ps := IntWalk.i64_in _ (by omega)
              have hl30 : (l3.length : Int) ≤ (c0 : Int) := by omega
              have hl31 : (0 : Int) ≤ (l3.length : Int) := by omega
              have HE := Aside0.mk he
              clear he
              go_wp2_with fail
              go_region_with ((go_at_call 31; refine (HS.out _ (by repeat (first | (with_reducible first | exact HBB.out | apply below_alloc | apply pw_below_drewN | apply below_drew1) | exact HBB.out))).mono ?_; rintro e w' ⟨rfl, hb⟩; have hcA := pw_cell_below hb (show World.cell? _ _ = _ from hcM); have HB2 := Aside0.mk (below_step (by repeat (first | (with_reducible first | exact HBB.out | apply below_alloc | apply pw_below_drewN | apply below_drew1) | exact HBB.out)) hb); clear hb))
              all_goals
                go_wp2_with fail
                go_ret
                refine ⟨?_, by repeat (first | (with_reducible first | exact HB2.out | apply below_alloc | apply pw_below_drewN | apply below_drew1) | exact HB2.out)⟩
                have hen : e = 2 ^ (l0.drop l3.length).length - 1 := by rw [← HRE.out, ← HN.out, ← HALL.out]; have := HE.out; omega
                rw [tryV, ← hen, ← HRE.out, HBV.out, HPS.out]
                first | rfl | (rw [← hws]; rfl)
def spec_l07Try.f (l0 : List S40) (a1 a2 : Int) (l3 : List Int) : Option Int :=
  if l0.length ≤ 6 ∧ (∀ x ∈ l0, plotOk x = true) ∧ 0 ≤ a2 ∧ a2 ≤ 20 ∧ 0 ≤ a1 ∧ a1 ≤ 3 ∧ l3.length ≤ l0.length ∧ ∀ d ∈ l3, -1 ≤ d ∧ d ≤ 19 then some (tryV l0 a1 a2.toNat l3) else none
theorem spec_l07Try.calls (A0 : Option Addr) (c0 : Nat) (l0 : List S40) (a1 a2 : Int) (A3 : Option Addr) (c3 : Nat) (l3 : List Int) (r : Int) (w : World) (hr0 : Kd.C k40 w A0 l0.length l0) (hc0 : l0.length ≤ c0) (hr3 : Kd.C (Kd.int .i64) w A3 l3.length l3) (hc3 : l3.length ≤ c3) (h : spec_l07Try.f l0 a1 a2 l3 = some r) :
    Calls Try.prog 46 #[.slice A0 l0.length c0, .int .i64 a1, .int .i64 a2, .slice A3 l3.length c3] w fun e w' => e = .returned (.int .i64 r) ∧ Below w.heap.size w w' := by
  unfold spec_l07Try.f at h
  split at h
  case isFalse => cases h
  rename_i hs
  obtain rfl := Option.some.inj h
  obtain ⟨D, rfl⟩ : ∃ D : Nat, a2 = D := ⟨a2.toNat, by omega⟩
  rw [Int.toNat_natCast]
  exact try_walk A0 c0 l0 a1 D A3 c3 l3 w ⟨hr0⟩ ⟨hc0⟩ ⟨hr3⟩ ⟨hc3⟩ ⟨hs⟩
end Go.Proofs.Ytokeeplkbgdokaa

/- spec.l07Planned walked: it answers the first plan that is worth most. -/
namespace Go.Proofs.Ytokeeplkbgdokaa
open Go.RowKit Go.Proofs.YtokeeplkbgdokaaW.PrintWords Go.Proofs.YtokeeplkbgdokaaW.PrintLast Go.Proofs.YtokeeplkbgdokaaW.PrintMore Go.Proofs.Ytokeeplkbgdokaa.Pq
set_option linter.unusedSimpArgs false
set_option linter.unusedVariables false

def fitsB (h : Int) (p : List Int) (d : Int) : Prop := d < 0 ∨ dayCount p d.toNat < h
def plannedAt (l : List S40) (h : Int) (D : Nat) (p : List Int) (d : Int) : Prop := fitsB h p d ∧ tryV l h D (p ++ [d]) = tryV l h D []
def PlannedOk (l : List S40) (h D : Int) (p : List Int) : Prop :=
  (l.length ≤ 6 ∧ (∀ x ∈ l, plotOk x = true) ∧ 0 ≤ D ∧ D ≤ 20 ∧ 0 ≤ h ∧ h ≤ 3) ∧ p.length = l.length ∧
  ∀ i, i < l.length → ∃ d, p[i]? = some d ∧ -1 ≤ d ∧ d ≤ 19 ∧ plannedAt l h D.toNat (p.take i) d ∧ ∀ d', -1 ≤ d' → d' < d → ¬ plannedAt l h D.toNat (p.take i) d'
theorem infoInt : (Try.prog.info? 2).map (fun i => (i.zero, i.size, i.bytes)) = some (some (.int .i64 0), (Kd.int .i64).sz, 8) := by kernel_rfl
theorem try_f (l h) (D : Nat) (p : List Int) (hp : tryPre l h D p) : spec_l07Try.f l h D p = some (tryV l h D p) := by
  unfold spec_l07Try.f
  unfold tryPre at hp
  rw [if_pos hp, Int.toNat_natCast]

set_option maxHeartbeats 4000000 in
set_option maxRecDepth 100000 in
theorem planned_walk (A0 : Option Addr) (c0 : Nat) (l0 : List S40) (h : Int) (D : Nat) (p : List Int) (w : World) (HR0 : Aside0 (Kd.C k40 w A0 l0.length l0)) (HC0 : Aside0 (l0.length ≤ c0)) (hP : Aside0 (PlannedOk l0 h D p)) :
    Calls Try.prog 30 #[.slice A0 l0.length c0, .int .i64 h, .int .i64 D] w fun e w' => ∃ v, e = .returned v ∧ Kd.R (Kd.int .i64) 2 w' w.heap.size (fun _ => True) v p ∧ Below w.heap.size w w' := by
  have hl6 : (l0.length : Int) ≤ 6 := by have := hP.out.1.1; omega
  have HPL : Aside0 (p.length = l0.length) := ⟨hP.out.2.1⟩
  have HPRE : Aside0 (∀ q : List Int, q.length ≤ l0.length → (∀ d ∈ q, -1 ≤ d ∧ d ≤ 19) → tryPre l0 h D q) := ⟨fun q h1 h2 => by
    obtain ⟨a1, a2, a3, a4, a5, a6⟩ := hP.out.1
    exact ⟨a1, a2, a3, a4, a5, a6, h1, h2⟩⟩
  have HPD : Aside0 (∀ d ∈ p, -1 ≤ d ∧ d ≤ 19) := ⟨fun d hd => by
    obtain ⟨i, hi, rfl⟩ := List.mem_iff_getElem.1 hd
    obtain ⟨d, h1, h2, h3, _⟩ := hP.out.2.2 i (by rw [← HPL.out]; exact hi)
    rw [List.getElem?_eq_getElem hi] at h1
    cases h1
    exact ⟨h2, h3⟩⟩
  obtain ⟨mo, HMO⟩ : ∃ mo, Aside0 (tryV l0 h D [] = mo) := ⟨_, ⟨rfl⟩⟩
  have HT : Aside0 (∀ (X : World) (A : Option Addr) (c : Nat) (q : List Int), Below w.heap.size w X → Kd.C (Kd.int .i64) X A q.length q → q.length ≤ c → q.length ≤ l0.length → (∀ d ∈ q, -1 ≤ d ∧ d ≤ 19) →
      Calls Try.prog 46 #[.slice A0 l0.length c0, .int .i64 h, .int .i64 D, .slice A q.length c] X fun e w' => e = .returned (.int .i64 (tryV l0 h D q)) ∧ Below X.heap.size X w') :=
    ⟨fun X A c q hX hA hc h1 h2 => spec_l07Try.calls A0 c0 l0 h D A c q _ X (Kd.C_below HR0.out hX) HC0.out hA hc (try_f _ _ _ _ (HPRE.out q h1 h2))⟩
  have HFIRST : Aside0 (Calls Try.prog 46 #[.slice A0 l0.length c0, .int .i64 h, .int .i64 D, .slice (some ⟨w.heap.size, 0, none⟩) 0 0] (w.alloc (.cells #[] 2)) fun e w' => e = .returned (.int .i64 mo) ∧ Below (w.alloc (.cells #[] 2)).heap.size (w.alloc (.cells #[] 2)) w') := ⟨by
    have := HT.out (w.alloc (.cells #[] 2)) (some ⟨w.heap.size, 0, none⟩) 0 [] ((Below.refl _ _).alloc (Nat.le_refl _) _) (Kd.R_reads' (R_fresh' (Kd.int .i64) w 2 0 (Nat.zero_le _))).2.2 (Nat.le_refl _) (Nat.zero_le _) (by simp)
    rw [HMO.out] at this
    exact this⟩
  go_enter Try.func30, Try.ntmps30
  go_wp2_with fail
  (with_reducible refine HFIRST.out.mono ?_)
  rintro e w1 ⟨rfl, hb1⟩
  have HB1 : Aside0 (Below w.heap.size w w1) := ⟨((Below.refl _ _).alloc (Nat.le_refl _) _).trans (hb1.mono (by simp))⟩
  clear hb1
  go_wp2_with (first | ((with_reducible refine gate_dst (N := 9) rfl ?_); refine Arr.wpList_allocTo rfl 59 rfl (some 9) rfl zero20 zero20_at ?_) | (refine Arr.wpList_storeNew rfl 59 (.tmp 9) (.tmp 18) rfl rfl zero20 zero20 zero20_at.size zero20_at.ones rfl _ rfl rfl ?_))
  simp only [Act.put, List.setIfInBounds_toArray, List.set_cons_succ, List.set_cons_zero, World.size_alloc]
  obtain ⟨g, HG⟩ : ∃ g, Aside0 (g = w1.heap.size + 1) := ⟨_, ⟨rfl⟩⟩
  have hgw : w.heap.size ≤ g := by have := HB1.out.size; have := HG.out; omega
  go_loopw [8] (fun u wr => ∃ i : Nat, i ≤ l0.length ∧ Aside0 (Kd.R (Kd.int .i64) 2 wr w.heap.size (fun _ => True) u (p.take i)) ∧ wr.heap[w1.heap.size + 1]? = some (.cells (Arr.ints .i64 (vec20 (dayCount (p.take i)))) 59 (0, 0)) ∧ Aside0 (Below w.heap.size w wr)) (fun u _ => l0.length - (match u with | .slice _ n _ => n | _ => 0))
  case atStart =>
    refine ⟨0, Nat.zero_le _, ⟨?_⟩, ?_, ⟨?_⟩⟩
    · exact Kd.R_alloc (R_fresh' (Kd.int .i64) w1 2 _ HB1.out.size) _
    · have : (w1.alloc (.cells #[] 2)).heap.size = w1.heap.size + 1 := by simp
      rw [← this]
      exact heap_alloc_last _ _
    · exact (HB1.out.alloc HB1.out.size _).alloc (by simp; have := HB1.out.size; omega) _
  case round =>
    obtain ⟨i, hi, HO, HM, HB⟩ := hrel
    obtain ⟨A1, c1, rfl, hc1, hC1⟩ := R_open' HO.out
    have hlen : (p.take i).length = i := by rw [List.length_take, HPL.out]; omega
    rw [hlen] at hc1 hC1
    rw [hlen]
    have HLEN := Aside0.mk hlen
    rw [hlen] at HO
    have HC1 := Aside0.mk hC1
    have HD1 := Aside0.mk hc1
    clear hC1 hc1 hlen
    by_cases hlt : i < l0.length
    · have q0 : (i : Int) < (l0.length : Int) := by omega
      obtain ⟨d, HD⟩ : ∃ d, Aside0 (p[i]? = some d ∧ -1 ≤ d ∧ d ≤ 19 ∧ plannedAt l0 h D (p.take i) d ∧ ∀ d', -1 ≤ d' → d' < d → ¬ plannedAt l0 h D (p.take i) d') := by
        obtain ⟨d, hd⟩ := hP.out.2.2 i hlt
        exact ⟨d, ⟨by simpa using hd⟩⟩
      go_wp2_with fail
      obtain ⟨wi, rfl⟩ : ∃ wi : World, wi = wr := ⟨_, rfl⟩
      go_loopw [10] (fun u wq => ∃ x : Int, -1 ≤ x ∧ x ≤ d ∧ u = .int .i64 x ∧ Aside0 (Below wi.heap.size wi wq)) (fun u _ => (d - intOf u).toNat)
      case atStart => exact ⟨-1, by omega, by have := HD.out.2.1; omega, rfl, ⟨Below.refl _ _⟩⟩
      case round =>
        obtain ⟨x, hx1, hx2, rfl, HB2⟩ := hrel
        have hx3 : x ≤ 19 := by have := HD.out.2.2.1; omega
        have hgi : w1.heap.size + 1 < wi.heap.size := (Array.getElem?_eq_some_iff.1 HM).1
        have HM2 : wr.heap[w1.heap.size + 1]? = some (.cells (Arr.ints .i64 (vec20 (dayCount (p.take i)))) 59 (0, 0)) := (HB2.out.block _ hgi).trans HM
        have HCR := Aside0.mk (Kd.C_below HC1.out HB2.out)
        by_cases hfit : x < 0 ∨ dayCount (p.take i) x.toNat < h
        · have hcase : (x < 0) ∨ (0 ≤ x ∧ dayCount (p.take i) x.toNat < h) := by omega
          have HFIT := Aside0.mk hfit
          clear hfit
          rcases hcase with hx0 | ⟨hx0, hdc⟩
          case inr =>
            have hx20 : x < 20 := by omega
            have hcx : wr.cell? ⟨w1.heap.size + 1, x.toNat, none⟩ = some (.int .i64 (dayCount (p.take i) x.toNat)) := by rw [Arr.box_cell HM2 x.toNat (by rw [vec20_length]; omega), vec20_at _ _ (by omega)]
            clear HM2

            have HN3 : Aside0 ((([] : List Int) ++ p.take i ++ [x]).length = i + 1) := ⟨by simp [HLEN.out]⟩
            go_wp2_with (first | ((with_reducible refine gate_builtin (b := .append) (xs := #[.tmp 38, .tmp 39]) rfl ?_); (try (refine gate_guard (by rfl) ?_; dsimp only)); at_builtin; refine Kd.R_append_rows (Kd.int .i64) (w0 := wr) wr.heap.size rfl (.tmp 38) (.tmp 39) 27 2 _ 8 rfl Try.underlying27 infoInt rfl (by decide) (by omega) _ [] (p.take i) A1 i c1 (fun _ => True) (fun _ => False) rfl rfl (R_fresh' _ _ _ _ (Nat.le_refl _)) (Kd.C_alloc HCR.out _) (fun x cs hk => hk) (fun _ h => h.elim) (fun _ _ => trivial) ((Below.refl _ _).alloc (Nat.le_refl _) _) (by simp) (by simp; omega) ?_; intro v1 w2 ho hb hg hat; clear hg hat; have HO2 := Aside0.mk ho; have HB3 := Aside0.mk hb; clear ho hb) | ((with_reducible refine gate_builtin (b := .append) (xs := #[.tmp 40, .tmp 42]) rfl ?_); (try (refine gate_guard (by rfl) ?_; dsimp only)); at_builtin; refine Kd.R_append (Kd.int .i64) (w0 := wr) wr.heap.size rfl (.tmp 40) (.tmp 42) 27 2 (.int .i64 0) 8 rfl Try.underlying27 infoInt rfl (by decide) (by omega) _ ([] ++ p.take i) x [.int .i64 x] (fun _ => True) (fun _ => False) rfl rfl rfl (fun _ hk => hk.elim) (fun _ _ => trivial) HO2.out HB3.out HB3.out.size (by rw [List.nil_append, HLEN.out]; omega) ?_; intro v3 w3 ho hb hg hat; clear hg hat; have HO4 := Aside0.mk ho; have HB4 := Aside0.mk hb; clear ho hb; obtain ⟨A3, c3, rfl, hc3, hC3⟩ := R_open' HO4.out; have HC3 := Aside0.mk hC3; have HD3 := Aside0.mk hc3; clear hC3 hc3; rw [HN3.out]))
            obtain ⟨tv, HTV⟩ : ∃ tv, Aside0 (tryV l0 h D (p.take i ++ [x]) = tv) := ⟨_, ⟨rfl⟩⟩
            have HCALL : Aside0 (Calls Try.prog 46 #[.slice A0 l0.length c0, .int .i64 h, .int .i64 D,   .slice A3 (i + 1) c3] w3 fun e w' => e = .returned (.int .i64 tv) ∧ Below w3.heap.size w3 w') := ⟨by
              have := HT.out w3 A3 c3 ([] ++ p.take i ++ [x]) (HB.out.trans ((HB2.out.trans (HB4.out.mono HB2.out.size)).mono HB.out.size)) HC3.out HD3.out (by simp [HLEN.out]; omega) (by
                intro y hy
                simp only [List.nil_append, List.mem_append, List.mem_singleton] at hy
                rcases hy with hy | rfl
                · exact HPD.out y (List.mem_of_mem_take hy)
                · exact ⟨hx1, hx3⟩)
              rw [HN3.out, List.nil_append, HTV.out] at this
              exact this⟩
            (with_reducible refine HCALL.out.mono ?_)
            rintro e w4 ⟨rfl, hb5⟩
            have HBX := Aside0.mk (HB2.out.trans ((HB4.out.trans (hb5.mono HB4.out.size)).mono HB2.out.size))
            clear hb5 HB2 HB3 HB4 HC3 HD3 HO2 HO4 HCALL HCR
            by_cases hxd : x < d
            · have htv : (tv == mo) = false := by
                have := HD.out.2.2.2.2 x hx1 hxd
                have h2 : tv ≠ mo := fun e => this ⟨HFIT.out, by rw [HTV.out, HMO.out]; exact e⟩
                simpa using h2
              go_wp2_with fail
              go_roundw
              case rel => exact ⟨x + 1, by omega, by omega, rfl, HBX⟩
              case measure => simp [intOf]; omega
            · obtain rfl : x = d := by omega
              have htv : tv = mo := by
                have := HD.out.2.2.2.1.2
                rw [HTV.out, HMO.out] at this
                exact this
              subst htv
              have HOX := Aside0.mk (Kd.R_below HO.out HBX.out)
              have HMX : w4.heap[w1.heap.size + 1]? = some (.cells (Arr.ints .i64 (vec20 (dayCount (p.take i)))) 59 (0, 0)) := (HBX.out.block _ hgi).trans HM
              have HBW := Aside0.mk (HB.out.trans (HBX.out.mono HB.out.size))
              have hHTK : p.take (i + 1) = p.take i ++ [x] := by
                rw [List.take_add_one, HD.out.1]; rfl
              have HTK := Aside0.mk hHTK
              have HN6 : Aside0 ((p.take (i + 1)).length = i + 1) := ⟨by rw [HTK.out, List.length_append, HLEN.out]; rfl⟩
              clear hHTK HBX HM
              have hcx4 : w4.cell? ⟨w1.heap.size + 1, x.toNat, none⟩ = some (.int .i64 (dayCount (p.take i) x.toNat)) := by rw [Arr.box_cell HMX x.toNat (by rw [vec20_length]; omega), vec20_at _ _ (by omega)]
              have hfx4 : w4.frozen? ⟨w1.heap.size + 1, x.toNat, none⟩ = false := blk_frozen HMX _
              have hdb : -100 ≤ dayCount (p.take i) x.toNat ∧ dayCount (p.take i) x.toNat ≤ 100 := by
                have : (p.take i).count (x.toNat : Int) ≤ (p.take i).length := List.count_le_length
                rw [HLEN.out] at this
                unfold dayCount
                omega
              obtain ⟨hdb1, hdb2⟩ := hdb
              have HMS := Aside0.mk (Arr.box_set HMX x.toNat (dayCount (p.take i) x.toNat + 1))
              have HOS := Aside0.mk (Kd.R_set HOX.out HMX (by decide) x.toNat (.int .i64 (dayCount (p.take i) x.toNat + 1)))
              have HBS := Aside0.mk (HBW.out.setCell (by show w.heap.size ≤ w1.heap.size + 1; have := HB1.out.size; omega) (.int .i64 (dayCount (p.take i) x.toNat + 1)) (p := ⟨w1.heap.size + 1, x.toNat, none⟩))
              go_wp2_with ((with_reducible refine gate_builtin (b := .append) (xs := #[.tmp 57, .tmp 59]) rfl ?_); at_builtin; refine Kd.R_append (Kd.int .i64) (w0 := w) w.heap.size rfl (.tmp 57) (.tmp 59) 27 2 (.int .i64 0) 8 rfl Try.underlying27 infoInt rfl (by decide) (by omega) _ (p.take i) x [.int .i64 x] (fun _ => True) (fun _ => False) (by rfl) (by rw [World.size_setCell]; rfl) rfl (fun _ hk => hk.elim) (fun _ _ => trivial) HOS.out HBS.out HBS.out.size (by rw [HLEN.out]; omega) ?_; intro v5 w5 ho hb hg hat; have hm5 := Aside0.mk (blk_grown HMS.out hg (Kd.R_ne HOS.out HMS.out (by decide))); clear hat hg; rw [← HTK.out] at ho; obtain ⟨A5, c5, rfl, hc5, hC5⟩ := R_open' ho; clear hc5 hC5; rw [HN6.out] at ho; rw [HN6.out]; have HO5 := Aside0.mk ho; have HB5 := Aside0.mk hb; clear ho hb)
              go_roundw
              case rel =>
                refine ⟨i + 1, hlt, HO5, ?_, HB5⟩
                refine Eq.trans hm5.out ?_
                rw [vec20_set]
                congr 3
                apply vec20_congr
                intro j hj
                rw [HTK.out]
                unfold dayCount
                by_cases h1 : j = x.toNat
                · have h2 : x = (j : Int) := by omega
                  rw [if_pos h1, ← h1, h2]
                  simp [List.count_append, List.count_singleton]
                · have h2 : ¬ (x = (j : Int)) := by omega
                  simp [h1, List.count_append, List.count_singleton, h2]
              case measure =>
                show l0.length - (i + 1) < l0.length - i
                omega
          case inl =>
            have HN3 : Aside0 ((([] : List Int) ++ p.take i ++ [x]).length = i + 1) := ⟨by simp [HLEN.out]⟩
            go_wp2_with (first | ((with_reducible refine gate_builtin (b := .append) (xs := #[.tmp 38, .tmp 39]) rfl ?_); (try (refine gate_guard (by rfl) ?_; dsimp only)); at_builtin; refine Kd.R_append_rows (Kd.int .i64) (w0 := wr) wr.heap.size rfl (.tmp 38) (.tmp 39) 27 2 _ 8 rfl Try.underlying27 infoInt rfl (by decide) (by omega) _ [] (p.take i) A1 i c1 (fun _ => True) (fun _ => False) rfl rfl (R_fresh' _ _ _ _ (Nat.le_refl _)) (Kd.C_alloc HCR.out _) (fun x cs hk => hk) (fun _ h => h.elim) (fun _ _ => trivial) ((Below.refl _ _).alloc (Nat.le_refl _) _) (by simp) (by simp; omega) ?_; intro v1 w2 ho hb hg hat; clear hg hat; have HO2 := Aside0.mk ho; have HB3 := Aside0.mk hb; clear ho hb) | ((with_reducible refine gate_builtin (b := .append) (xs := #[.tmp 40, .tmp 42]) rfl ?_); (try (refine gate_guard (by rfl) ?_; dsimp only)); at_builtin; refine Kd.R_append (Kd.int .i64) (w0 := wr) wr.heap.size rfl (.tmp 40) (.tmp 42) 27 2 (.int .i64 0) 8 rfl Try.underlying27 infoInt rfl (by decide) (by omega) _ ([] ++ p.take i) x [.int .i64 x] (fun _ => True) (fun _ => False) rfl rfl rfl (fun _ hk => hk.elim) (fun _ _ => trivial) HO2.out HB3.out HB3.out.size (by rw [List.nil_append, HLEN.out]; omega) ?_; intro v3 w3 ho hb hg hat; clear hg hat; have HO4 := Aside0.mk ho; have HB4 := Aside0.mk hb; clear ho hb; obtain ⟨A3, c3, rfl, hc3, hC3⟩ := R_open' HO4.out; have HC3 := Aside0.mk hC3; have HD3 := Aside0.mk hc3; clear hC3 hc3; rw [HN3.out]))
            obtain ⟨tv, HTV⟩ : ∃ tv, Aside0 (tryV l0 h D (p.take i ++ [x]) = tv) := ⟨_, ⟨rfl⟩⟩
            have HCALL : Aside0 (Calls Try.prog 46 #[.slice A0 l0.length c0, .int .i64 h, .int .i64 D,   .slice A3 (i + 1) c3] w3 fun e w' => e = .returned (.int .i64 tv) ∧ Below w3.heap.size w3 w') := ⟨by
              have := HT.out w3 A3 c3 ([] ++ p.take i ++ [x]) (HB.out.trans ((HB2.out.trans (HB4.out.mono HB2.out.size)).mono HB.out.size)) HC3.out HD3.out (by simp [HLEN.out]; omega) (by
                intro y hy
                simp only [List.nil_append, List.mem_append, List.mem_singleton] at hy
                rcases hy with hy | rfl
                · exact HPD.out y (List.mem_of_mem_take hy)
                · exact ⟨hx1, hx3⟩)
              rw [HN3.out, List.nil_append, HTV.out] at this
              exact this⟩
            (with_reducible refine HCALL.out.mono ?_)
            rintro e w4 ⟨rfl, hb5⟩
            have HBX := Aside0.mk (HB2.out.trans ((HB4.out.trans (hb5.mono HB4.out.size)).mono HB2.out.size))
            clear hb5 HB2 HB3 HB4 HC3 HD3 HO2 HO4 HCALL HCR
            by_cases hxd : x < d
            · have htv : (tv == mo) = false := by
                have := HD.out.2.2.2.2 x hx1 hxd
                have h2 : tv ≠ mo := fun e => this ⟨HFIT.out, by rw [HTV.out, HMO.out]; exact e⟩
                simpa using h2
              go_wp2_with fail
              go_roundw
              case rel => exact ⟨x + 1, by omega, by omega, rfl, HBX⟩
              case measure => simp [intOf]; omega
            · obtain rfl : x = d := by omega
              have htv : tv = mo := by
                have := HD.out.2.2.2.1.2
                rw [HTV.out, HMO.out] at this
                exact this
              subst htv
              have HOX := Aside0.mk (Kd.R_below HO.out HBX.out)
              have HMX : w4.heap[w1.heap.size + 1]? = some (.cells (Arr.ints .i64 (vec20 (dayCount (p.take i)))) 59 (0, 0)) := (HBX.out.block _ hgi).trans HM
              have HBW := Aside0.mk (HB.out.trans (HBX.out.mono HB.out.size))
              have hHTK : p.take (i + 1) = p.take i ++ [x] := by
                rw [List.take_add_one, HD.out.1]; rfl
              have HTK := Aside0.mk hHTK
              have HN6 : Aside0 ((p.take (i + 1)).length = i + 1) := ⟨by rw [HTK.out, List.length_append, HLEN.out]; rfl⟩
              clear hHTK HBX HM
              go_wp2_with ((with_reducible refine gate_builtin (b := .append) (xs := #[.tmp 57, .tmp 59]) rfl ?_); at_builtin; refine Kd.R_append (Kd.int .i64) (w0 := w) w.heap.size rfl (.tmp 57) (.tmp 59) 27 2 (.int .i64 0) 8 rfl Try.underlying27 infoInt rfl (by decide) (by omega) _ (p.take i) x [.int .i64 x] (fun _ => True) (fun _ => False) rfl rfl rfl (fun _ hk => hk.elim) (fun _ _ => trivial) HOX.out HBW.out HBW.out.size (by rw [HLEN.out]; omega) ?_; intro v5 w5 ho hb hg hat; have hm5 := Aside0.mk (blk_grown HMX hg (Kd.R_ne HOX.out HMX (by decide))); clear hat hg; rw [← HTK.out] at ho; obtain ⟨A5, c5, rfl, hc5, hC5⟩ := R_open' ho; clear hc5 hC5; rw [HN6.out] at ho; rw [HN6.out]; have HO5 := Aside0.mk ho; have HB5 := Aside0.mk hb; clear ho hb)
              go_roundw
              case rel =>
                refine ⟨i + 1, hlt, HO5, ?_, HB5⟩
                refine Eq.trans hm5.out ?_
                congr 3
                apply vec20_congr
                intro j hj
                rw [HTK.out]
                unfold dayCount
                have : ¬ (x = (j : Int)) := by omega
                simp [List.count_append, List.count_singleton, this]
              case measure =>
                show l0.length - (i + 1) < l0.length - i
                omega
        · have hx0 : 0 ≤ x := by omega
          have hdc : ¬ dayCount (p.take i) x.toNat < h := by omega
          have hx20 : x < 20 := by omega
          have hcx : wr.cell? ⟨w1.heap.size + 1, x.toNat, none⟩ = some (.int .i64 (dayCount (p.take i) x.toNat)) := by rw [Arr.box_cell HM2 x.toNat (by rw [vec20_length]; omega), vec20_at _ _ (by omega)]
          have hxd : x < d := by
            have h1 := HD.out.2.2.2.1.1
            by_cases h2 : x = d
            · subst h2; exact absurd h1 hfit
            · omega
          have HF2 := Aside0.mk hfit
          clear HM2 hfit
          go_wp2_with fail
          go_roundw
          case rel => exact ⟨x + 1, by omega, by omega, rfl, HB2⟩
          case measure => simp [intOf]; omega
    · have q0 : ¬ (i : Int) < (l0.length : Int) := by omega
      obtain rfl : i = l0.length := by omega
      have hpt : p.take l0.length = p := by rw [← HPL.out, List.take_length]
      rw [hpt] at HO
      have HO' := HO
      clear hpt
      go_wp2_with fail
      go_ret
      exact ⟨_, rfl, HO'.out, HB.out⟩
instance plannedAt_dec (l : List S40) (h : Int) (D : Nat) (p : List Int) (d : Int) : Decidable (plannedAt l h D p d) := by unfold plannedAt fitsB; exact inferInstance
/-- The days in order, none first. -/
def dayList : List Int := (List.range 21).map (fun b : Nat => (b : Int) - 1)
def plannedGo (l : List S40) (h : Int) (D : Nat) : Nat → List Int → Option (List Int)
  | 0, q => some q
  | n + 1, q => (dayList.find? (fun d => decide (plannedAt l h D q d))).bind fun d => plannedGo l h D n (q ++ [d])
def spec_l07Planned.f (l0 : List S40) (a1 a2 : Int) : Option (List Int) :=
  if l0.length ≤ 6 ∧ (∀ x ∈ l0, plotOk x = true) ∧ 0 ≤ a2 ∧ a2 ≤ 20 ∧ 0 ≤ a1 ∧ a1 ≤ 3 then plannedGo l0 a1 a2.toNat l0.length [] else none
theorem dayList_find (P : Int → Bool) (d : Int) (h : dayList.find? P = some d) : -1 ≤ d ∧ d ≤ 19 ∧ P d = true ∧ ∀ d', -1 ≤ d' → d' < d → P d' = false := by
  rw [List.find?_eq_some_iff_getElem] at h
  obtain ⟨hp, i, hi, he, hlt⟩ := h
  have hi' : i < 21 := by simpa [dayList] using hi
  have hd : d = (i : Int) - 1 := by rw [← he]; simp [dayList]
  refine ⟨by omega, by omega, hp, fun d' h1 h2 => ?_⟩
  have := hlt (d' + 1).toNat (by omega)
  have e : dayList[(d' + 1).toNat]'(by simp [dayList]; omega) = d' := by simp [dayList]; omega
  rw [e] at this
  simpa using this
theorem plannedGo_ok (l : List S40) (h : Int) (D : Nat) (n : Nat) : ∀ (q p : List Int), plannedGo l h D n q = some p → p.length = q.length + n ∧ p.take q.length = q ∧ ∀ i, q.length ≤ i → i < p.length → ∃ d, p[i]? = some d ∧ -1 ≤ d ∧ d ≤ 19 ∧ plannedAt l h D (p.take i) d ∧ ∀ d', -1 ≤ d' → d' < d → ¬ plannedAt l h D (p.take i) d' := by
  induction n with
  | zero =>
    intro q p hp
    simp only [plannedGo, Option.some.injEq] at hp
    subst hp
    exact ⟨rfl, List.take_length, fun i h1 h2 => by omega⟩
  | succ n ih =>
    intro q p hp
    rw [plannedGo] at hp
    obtain ⟨d, hd, hp⟩ := Option.bind_eq_some_iff.1 hp
    obtain ⟨h1, h2, h3, h4⟩ := dayList_find _ _ hd
    obtain ⟨g1, g2, g3⟩ := ih _ _ hp
    rw [List.length_append, List.length_singleton] at g1 g2 g3
    have g4 : p.take q.length = q := by
      have := congrArg (List.take q.length) g2
      rw [List.take_take, Nat.min_eq_left (by omega)] at this
      simpa using this
    refine ⟨by omega, g4, fun i hi1 hi2 => ?_⟩
    by_cases hi : i = q.length
    · subst hi
      refine ⟨d, ?_, h1, h2, ?_, ?_⟩
      · have := congrArg (fun l => l[q.length]?) g2
        simpa using this
      · rw [g4]; simpa using h3
      · intro d' ha hb
        rw [g4]
        simpa using h4 d' ha hb
    · exact g3 i (by omega) hi2
theorem planned_f_ok {l0 : List S40} {a1 a2 : Int} {p : List Int} (h : spec_l07Planned.f l0 a1 a2 = some p) : PlannedOk l0 a1 a2 p := by
  unfold spec_l07Planned.f at h
  split at h
  case isTrue hs =>
    obtain ⟨h1, _, h3⟩ := plannedGo_ok _ _ _ _ _ _ h
    rw [List.length_nil, Nat.zero_add] at h1
    exact ⟨hs, h1, fun i hi => h3 i (Nat.zero_le _) (by omega)⟩
  case isFalse => cases h
theorem spec_l07Planned.calls (A0 : Option Addr) (c0 : Nat) (l0 : List S40) (a1 a2 : Int) (r : List Int) (w : World) (hr0 : Kd.C k40 w A0 l0.length l0) (hc0 : l0.length ≤ c0) (h : spec_l07Planned.f l0 a1 a2 = some r) :
    Calls Try.prog 30 #[.slice A0 l0.length c0, .int .i64 a1, .int .i64 a2] w fun e w' => ∃ v0_ : Value, e = .returned v0_ ∧ Kd.R (Kd.int .i64) 2 w' w.heap.size (fun _ => True) v0_ r ∧ Below w.heap.size w w' := by
  have hp := planned_f_ok h
  obtain ⟨D, rfl⟩ : ∃ D : Nat, a2 = D := ⟨a2.toNat, by have := hp.1.2.2.1; omega⟩
  exact planned_walk A0 c0 l0 a1 D r w ⟨hr0⟩ ⟨hc0⟩ ⟨hp⟩
end Go.Proofs.Ytokeeplkbgdokaa

/- Functions of the program as Lean functions, each with a proof that a call of it comes to just that. Written by this session's program wip/tools/myprint.py. -/
namespace Go.Proofs.Ytokeeplkbgdokaa.Pq
open Go.RowKit Go.Proofs.YtokeeplkbgdokaaW.PrintWords Go.Proofs.YtokeeplkbgdokaaW.PrintLast Go.Proofs.YtokeeplkbgdokaaW.PrintMore
attribute [local go_sem] max2_int min2_int max_two min_two max_three min_three max_four min_four   -- for this text's walks alone
set_option linter.unusedVariables false
set_option linter.unusedSimpArgs false

/-! ### impl_Plot_worth: function 32 -/
def impl_Plot_worth.f (a0_0 : Int) (a0_1 : Int) (a0_2 : Int) (a0_3 : Int) (a1 : Int) : Option (Int) := (impl_within.f (wrap64 (a1 - (wrap64 (a0_1)))) 0 (wrap64 (a0_2))).bind fun t157 => (if t157 = true then (some (mx 0 (wrap64 ((wrap64 (a0_0)) - (wrap64 ((wrap64 (a0_3)) * (wrap64 (a1 - (wrap64 (a0_1)))))))))) else (some 0))
set_option maxHeartbeats 8000000 in
set_option maxRecDepth 100000 in
theorem impl_Plot_worth.calls (a0_0 : Int) (a0_1 : Int) (a0_2 : Int) (a0_3 : Int) (a1 : Int) (r : Int) (w : World) (h : impl_Plot_worth.f a0_0 a0_1 a0_2 a0_3 a1 = some r) :
  Calls Try.prog 32 #[.agg #[.int .i16 a0_0, .int .i16 a0_1, .int .i16 a0_2, .int .i16 a0_3], .int .i64 a1] w fun e w' => e = .returned (.int .i64 r) ∧ Below w.heap.size w w' := by
 have hu40 := Try.underlying40
 have HB := Aside0.mk (Below.refl w.heap.size w)
 have H : ((impl_within.f (wrap64 (a1 - (wrap64 (a0_1)))) 0 (wrap64 (a0_2))).bind fun t157 => (if t157 = true then (some (mx 0 (wrap64 ((wrap64 (a0_0)) - (wrap64 ((wrap64 (a0_3)) * (wrap64 (a1 - (wrap64 (a0_1)))))))))) else (some 0))) = some r := h
 clear h
 replace H := Option.bind_eq_some_iff.mp H
 obtain ⟨t157, A30, H⟩ := H
 replace H : (if t157 = true then (some (mx 0 (wrap64 ((wrap64 (a0_0)) - (wrap64 ((wrap64 (a0_3)) * (wrap64 (a1 - (wrap64 (a0_1)))))))))) else (some 0)) = some r := H
 have A3 := Aside0.mk A30
 clear A30
 by_cases c4 : t157 = true
 ·subst c4
  have H1 : (some (mx 0 (wrap64 ((wrap64 (a0_0)) - (wrap64 ((wrap64 (a0_3)) * (wrap64 (a1 - (wrap64 (a0_1)))))))))) = some r := by rw [if_pos rfl] at H; exact H
  clear H
  have H := H1
  clear H1
  obtain ⟨ji5, hji5⟩ : ∃ j_ : Int, (mx 0 (wrap64 ((wrap64 (a0_0)) - (wrap64 ((wrap64 (a0_3)) * (wrap64 (a1 - (wrap64 (a0_1))))))))) = j_ := ⟨_, rfl⟩
  replace H : (some ji5) = some r := by first | (rw [hji5] at H; exact H) | (simp only [hji5] at H ⊢; exact H)
  (try rw [hji5] at A3)
  (try (have hji5l : 0 ≤ ji5 := by (rw [← hji5]; unfold mx; (repeat' split) <;> omega)))
  (try (have hji5m : 0 ≤ ji5 := by omega))
  have hji5_ : (if 0 < (wrap64 ((wrap64 (a0_0)) - (wrap64 ((wrap64 (a0_3)) * (wrap64 (a1 - (wrap64 (a0_1)))))))) then (wrap64 ((wrap64 (a0_0)) - (wrap64 ((wrap64 (a0_3)) * (wrap64 (a1 - (wrap64 (a0_1)))))))) else 0) = ji5 := hji5
  obtain rfl := Option.some.inj H
  go_enter Try.func32, Try.ntmps32
  go_wp2_with (first | ((with_reducible refine gate_dst (N := 2) rfl ?_); refine box_event ?hg (N := 2) ?hd (cs := #[.int .i16 a0_0, .int .i16 a0_1, .int .i16 a0_2, .int .i16 a0_3]) (t := 40) ?hr ?_; (case hd => rfl); (case hg => rfl); (case hr => first | (go_simp; done) | (go_simp; rfl)); intro gb156 hg w6 hbox hb; have n0_ := Aside0.mk (below_step (by repeat (first | (with_reducible first | exact HB.out | apply below_alloc | apply pw_below_drewN | apply below_drew1) | exact HB.out)) hb); have n1_ := Aside0.mk (hbox); have n2_ := Aside0.mk ((by rw [hg]; exact (below_size (by repeat (first | (with_reducible first | exact HB.out | apply below_alloc | apply pw_below_drewN | apply below_drew1) | exact HB.out))) : w.heap.size ≤ gb156)); have n3_ := Aside0.mk ((by rw [hg]; exact (below_size (by repeat (first | (with_reducible first | exact HB.out | apply below_alloc | apply pw_below_drewN | apply below_drew1) | exact HB.out))) : w.heap.size ≤ gb156)); clear HB; have HB := n0_; have BK156 := n1_; have GW156 := n2_; have GE156 := n3_; clear n0_ n1_ n2_ n3_; clear hb hbox hg; have hcz7_0 : w6.cell? ⟨gb156, 0, none⟩ = some (.int .i16 a0_0) := (blk_cell BK156.out 0).trans rfl; have hcz7_1 : w6.cell? ⟨gb156, 1, none⟩ = some (.int .i16 a0_1) := (blk_cell BK156.out 1).trans rfl; have hcz7_2 : w6.cell? ⟨gb156, 2, none⟩ = some (.int .i16 a0_2) := (blk_cell BK156.out 2).trans rfl; have hcz7_3 : w6.cell? ⟨gb156, 3, none⟩ = some (.int .i16 a0_3) := (blk_cell BK156.out 3).trans rfl; have hfz7_0 := blk_frozen BK156.out 0; have hfz7_1 := blk_frozen BK156.out 1; have hfz7_2 := blk_frozen BK156.out 2; have hfz7_3 := blk_frozen BK156.out 3) | ((with_reducible refine gate_callee (f := 38) rfl ?_); refine goesL_ (some 15) rfl rfl Try.func38 (by kernel_rfl) rfl #[.int .i64 (wrap64 (a1 - (wrap64 (a0_1)))), .int .i64 0, .int .i64 (wrap64 (a0_2))] rfl (by (try simp only [List.map_toArray, List.map_cons, List.map_nil]); first | done | rfl | (simp only [List.length_drop, List.length_take]; rfl)) ?_; (with_reducible refine (impl_within.calls (wrap64 (a1 - (wrap64 (a0_1)))) 0 (wrap64 (a0_2)) true _ A3.out).mono ?_); rintro e w' ⟨rfl, ⟨nd, rfl⟩⟩; refine ⟨_, rfl, ?_⟩))
  go_ret
  exact ⟨by first | rfl | (simp [errW_none, errW_some] <;> rfl) | (simp only [← hji5]; first | rfl | (simp [errW_none, errW_some] <;> rfl)) | (simp [*, errW_none, errW_some] <;> rfl), by repeat (first | (with_reducible first | exact HB.out | apply below_alloc | apply pw_below_drewN | apply below_drew1 | refine below_set ?_ GE156.out) | exact HB.out)⟩
 ·replace c4 := Bool.eq_false_iff.mpr c4
  subst c4
  have H1 : (some 0) = some r := by rw [if_neg (show ¬ (false = true) by decide)] at H; exact H
  clear H
  have H := H1
  clear H1
  obtain rfl := Option.some.inj H
  go_enter Try.func32, Try.ntmps32
  go_wp2_with (first | ((with_reducible refine gate_dst (N := 2) rfl ?_); refine box_event ?hg (N := 2) ?hd (cs := #[.int .i16 a0_0, .int .i16 a0_1, .int .i16 a0_2, .int .i16 a0_3]) (t := 40) ?hr ?_; (case hd => rfl); (case hg => rfl); (case hr => first | (go_simp; done) | (go_simp; rfl)); intro gb156 hg w8 hbox hb; have n0_ := Aside0.mk (below_step (by repeat (first | (with_reducible first | exact HB.out | apply below_alloc | apply pw_below_drewN | apply below_drew1) | exact HB.out)) hb); have n1_ := Aside0.mk (hbox); have n2_ := Aside0.mk ((by rw [hg]; exact (below_size (by repeat (first | (with_reducible first | exact HB.out | apply below_alloc | apply pw_below_drewN | apply below_drew1) | exact HB.out))) : w.heap.size ≤ gb156)); have n3_ := Aside0.mk ((by rw [hg]; exact (below_size (by repeat (first | (with_reducible first | exact HB.out | apply below_alloc | apply pw_below_drewN | apply below_drew1) | exact HB.out))) : w.heap.size ≤ gb156)); clear HB; have HB := n0_; have BK156 := n1_; have GW156 := n2_; have GE156 := n3_; clear n0_ n1_ n2_ n3_; clear hb hbox hg; have hcz9_0 : w8.cell? ⟨gb156, 0, none⟩ = some (.int .i16 a0_0) := (blk_cell BK156.out 0).trans rfl; have hcz9_1 : w8.cell? ⟨gb156, 1, none⟩ = some (.int .i16 a0_1) := (blk_cell BK156.out 1).trans rfl; have hcz9_2 : w8.cell? ⟨gb156, 2, none⟩ = some (.int .i16 a0_2) := (blk_cell BK156.out 2).trans rfl; have hcz9_3 : w8.cell? ⟨gb156, 3, none⟩ = some (.int .i16 a0_3) := (blk_cell BK156.out 3).trans rfl; have hfz9_0 := blk_frozen BK156.out 0; have hfz9_1 := blk_frozen BK156.out 1; have hfz9_2 := blk_frozen BK156.out 2; have hfz9_3 := blk_frozen BK156.out 3) | ((with_reducible refine gate_callee (f := 38) rfl ?_); refine goesL_ (some 15) rfl rfl Try.func38 (by kernel_rfl) rfl #[.int .i64 (wrap64 (a1 - (wrap64 (a0_1)))), .int .i64 0, .int .i64 (wrap64 (a0_2))] rfl (by (try simp only [List.map_toArray, List.map_cons, List.map_nil]); first | done | rfl | (simp only [List.length_drop, List.length_take]; rfl)) ?_; (with_reducible refine (impl_within.calls (wrap64 (a1 - (wrap64 (a0_1)))) 0 (wrap64 (a0_2)) false _ A3.out).mono ?_); rintro e w' ⟨rfl, ⟨nd, rfl⟩⟩; refine ⟨_, rfl, ?_⟩))
  go_ret
  exact ⟨by first | rfl | (simp [errW_none, errW_some] <;> rfl) | (simp [*, errW_none, errW_some] <;> rfl), by repeat (first | (with_reducible first | exact HB.out | apply below_alloc | apply pw_below_drewN | apply below_drew1 | refine below_set ?_ GE156.out) | exact HB.out)⟩

end Go.Proofs.Ytokeeplkbgdokaa.Pq

/- Functions of the program as Lean functions, each with a proof that a call of it comes to just that. Written by this session's program wip/tools/myprint.py. -/
namespace Go.Proofs.Ytokeeplkbgdokaa.Pq
open Go.RowKit Go.Proofs.YtokeeplkbgdokaaW.PrintWords Go.Proofs.YtokeeplkbgdokaaW.PrintLast Go.Proofs.YtokeeplkbgdokaaW.PrintMore
attribute [local go_sem] max2_int min2_int max_two min_two max_three min_three max_four min_four   -- for this text's walks alone
set_option linter.unusedVariables false
set_option linter.unusedSimpArgs false

/-! ### impl_total: function 33 -/
def impl_total.l0 : Nat → Int → List Int → Int → Int → Option (Int)
 | 0, _, _, _, _ => none
 | k + 1, x3, x6, x7, x8 => if x8 < x7 then (if 0 ≤ x8 then (if x8 < (x6.length : Int) then (impl_total.l0 k (wrap64 (x3 + (rd x6 x8))) x6 x7 (wrap64 (x8 + 1))) else (none)) else (none)) else (some x3)
def impl_total.f (k : Nat) (l0 : List Int) : Option (Int) := impl_total.l0 k 0 l0 (l0.length : Int) 0
theorem impl_total.mono_l : ∀ k, (∀ y0 y1 y2 y3, LeO (impl_total.l0 k y0 y1 y2 y3) (impl_total.l0 (k + 1) y0 y1 y2 y3))
 | 0 => fun _ _ _ _ r h => by simp [impl_total.l0] at h
 | k + 1 => by
  have ih0 := impl_total.mono_l k
  ·intro y0 y1 y2 y3
   unfold impl_total.l0
   repeat' first
   | (with_reducible exact ih0 _ _ _ _)
   | (with_reducible exact LeO.refl _)
   | (with_reducible exact LeO.none _)
   | (with_reducible refine LeO.ite ?_ ?_)
   | (with_reducible refine LeO.bind ?_ (fun _ => ?_))
   | exact ih0 _ _ _ _
   | exact LeO.none _
   | refine LeO.ite ?_ ?_
   | refine LeO.bind ?_ (fun _ => ?_)
theorem impl_total.mono : ∀ a0 k, LeO (impl_total.f k a0) (impl_total.f (k + 1) a0) := by
 intro a0 k
 have ih0 := impl_total.mono_l k
 unfold impl_total.f
 repeat' first
   | (with_reducible exact ih0 _ _ _ _)
   | (with_reducible exact LeO.refl _)
   | (with_reducible exact LeO.none _)
   | (with_reducible refine LeO.ite ?_ ?_)
   | (with_reducible refine LeO.bind ?_ (fun _ => ?_))
   | exact ih0 _ _ _ _
   | exact LeO.none _
   | refine LeO.ite ?_ ?_
   | refine LeO.bind ?_ (fun _ => ?_)
set_option maxHeartbeats 8000000 in
set_option maxRecDepth 100000 in
theorem impl_total.calls (k : Nat) (A0 : Option Addr) (c0 : Nat) (l0 : List Int) (r : Int) (w : World) (hr0 : Kd.C (Kd.int .i64) w A0 l0.length l0) (hc0 : l0.length ≤ c0) (h : impl_total.f k l0 = some r) :
  Calls Try.prog 33 #[.slice A0 l0.length c0] w fun e w' => e = .returned (.int .i64 r) ∧ Drawn0 w w' := by
 have HR0 := Aside0.mk hr0
 have HC0 := Aside0.mk hc0
 clear hr0 hc0
 have H : (impl_total.l0 k 0 l0 (l0.length : Int) 0) = some r := h
 clear h
 have H' := Aside0.mk H
 clear H
 go_enter Try.func33, Try.ntmps33
 go_wp2
 go_loopg [3, 8] k (fun kq v3 v8 w' => ∃ (x3_1 : Int) (x8_1 : Int), v3 = .int .i64 x3_1 ∧ v8 = .int .i64 x8_1 ∧ Aside0 (impl_total.l0 kq x3_1 l0 (l0.length : Int) x8_1 = some r) ∧ Aside0 (kq ≤ k) ∧ Drawn0 w w')
 case atStart => exact ⟨(0), (0), (by first | rfl | (simp; done) | (simp [*]; done)), (by first | rfl | (simp; done) | (simp [*]; done)), H', ⟨Nat.le_refl _⟩, by repeat (first | exact Drawn0.refl _ | apply Drawn0.step)⟩
 case round =>
  clear H'
  obtain ⟨x3_1, x8_1, rfl, rfl, HA, HK1, ⟨m1, rfl⟩⟩ := hrel
  cases gk with
  | zero => exact absurd HA.out (by simp [impl_total.l0])
  | succ k1 =>
   have H := HA.out
   clear HA
   simp only [impl_total.l0] at H
   by_cases c2 : x8_1 < (l0.length : Int)
   ·rw [if_pos c2] at H
    have c2b0 : decide (x8_1 < (l0.length : Int)) = true := decide_eq_true c2
    clear c2
    by_cases c3 : 0 ≤ x8_1
    ·rw [if_pos c3] at H
     have c3b0 : decide (0 ≤ x8_1) = true := decide_eq_true c3
     clear c3
     by_cases c4 : x8_1 < (l0.length : Int)
     ·rw [if_pos c4] at H
      have c4b0 : decide (x8_1 < (l0.length : Int)) = true := decide_eq_true c4
      clear c4
      have H' := Aside0.mk H
      clear H
      have p158 : 0 ≤ (x8_1 : Int) := of_decide_eq_true (by first | (with_reducible assumption) | assumption)
      have q158 : x8_1 < (l0.length : Int) := of_decide_eq_true (by first | (with_reducible assumption) | assumption)
      obtain ⟨ad158, e158, hx158_0⟩ := Kd.at_int HR0.out x8_1 p158 q158
      cases e158
      replace p158 := eq_true p158
      replace q158 := eq_true q158
      go_wp2
      go_roundg k1
      case measure => have := HK1.out; omega
      case rel => exact ⟨(wrap64 (x3_1 + (rd l0 x8_1))), (wrap64 (x8_1 + 1)), (by first | rfl | (simp; done) | (simp [*]; done)), (by first | rfl | (simp; done) | (simp [*]; done)), H', ⟨by have := HK1.out; omega⟩, by repeat (first | exact Drawn0.refl _ | apply Drawn0.step)⟩
     ·rw [if_neg c4] at H
      exact absurd H (by simp)
    ·rw [if_neg c3] at H
     exact absurd H (by simp)
   ·rw [if_neg c2] at H
    have c2b0 : decide (x8_1 < (l0.length : Int)) = false := decide_eq_false c2
    clear c2
    obtain rfl := Option.some.inj H
    go_wp2
    go_ret
    exact ⟨by first | rfl | (simp; done) | (simp [*]; done), by repeat (first | exact Drawn0.refl _ | apply Drawn0.step)⟩

end Go.Proofs.Ytokeeplkbgdokaa.Pq

/- Functions of the program as Lean functions, each with a proof that a call of it comes to just that. Written by this session's program wip/tools/myprint.py. -/
namespace Go.Proofs.Ytokeeplkbgdokaa.Pq
open Go.RowKit Go.Proofs.YtokeeplkbgdokaaW.PrintWords Go.Proofs.YtokeeplkbgdokaaW.PrintLast Go.Proofs.YtokeeplkbgdokaaW.PrintMore
attribute [local go_sem] max2_int min2_int max_two min_two max_three min_three max_four min_four   -- for this text's walks alone
set_option linter.unusedVariables false
set_option linter.unusedSimpArgs false

/-! ### impl_worths: function 34 -/
def impl_worths.l0 : Nat → List (S40) → List Int → List Int → Int → Int → Option (List Int)
 | 0, _, _, _, _, _ => none
 | k + 1, x0, x5, x11, x12, x13 => if x13 < x12 then (if 0 ≤ x13 then (if x13 < (x11.length : Int) then (if (rd x11 x13) ≥ 0 then (if x13 < (x0.length : Int) then ((impl_Plot_worth.f ((rd_T40 x0 x13).f0) ((rd_T40 x0 x13).f1) ((rd_T40 x0 x13).f2) ((rd_T40 x0 x13).f3) (rd x11 x13)).bind fun t164 => (if x13 < (x5.length : Int) then (impl_worths.l0 k x0 (x5.set (x13 : Int).toNat t164) x11 x12 (wrap64 (x13 + 1))) else (none))) else (none)) else (impl_worths.l0 k x0 x5 x11 x12 (wrap64 (x13 + 1)))) else (none)) else (none)) else (some x5)
def impl_worths.f (k : Nat) (l0 : List (S40)) (l1 : List Int) : Option (List Int) := if 0 ≤ (l0.length : Int) then (if ((l0.length : Int) : Int).toNat ≤ 35184372088832 then (impl_worths.l0 k l0 (List.replicate ((l0.length : Int) : Int).toNat 0) l1 (l1.length : Int) 0) else (none)) else (none)
theorem impl_worths.mono_l : ∀ k, (∀ y0 y1 y2 y3 y4, LeO (impl_worths.l0 k y0 y1 y2 y3 y4) (impl_worths.l0 (k + 1) y0 y1 y2 y3 y4))
 | 0 => fun _ _ _ _ _ r h => by simp [impl_worths.l0] at h
 | k + 1 => by
  have ih0 := impl_worths.mono_l k
  ·intro y0 y1 y2 y3 y4
   unfold impl_worths.l0
   repeat' first
   | (with_reducible exact ih0 _ _ _ _ _)
   | (with_reducible exact LeO.refl _)
   | (with_reducible exact LeO.none _)
   | (with_reducible refine LeO.ite ?_ ?_)
   | (with_reducible refine LeO.bind ?_ (fun _ => ?_))
   | exact ih0 _ _ _ _ _
   | exact LeO.none _
   | refine LeO.ite ?_ ?_
   | refine LeO.bind ?_ (fun _ => ?_)
theorem impl_worths.mono : ∀ a0 a1 k, LeO (impl_worths.f k a0 a1) (impl_worths.f (k + 1) a0 a1) := by
 intro a0 a1 k
 have ih0 := impl_worths.mono_l k
 unfold impl_worths.f
 repeat' first
   | (with_reducible exact ih0 _ _ _ _ _)
   | (with_reducible exact LeO.refl _)
   | (with_reducible exact LeO.none _)
   | (with_reducible refine LeO.ite ?_ ?_)
   | (with_reducible refine LeO.bind ?_ (fun _ => ?_))
   | exact ih0 _ _ _ _ _
   | exact LeO.none _
   | refine LeO.ite ?_ ?_
   | refine LeO.bind ?_ (fun _ => ?_)
set_option maxHeartbeats 8000000 in
set_option maxRecDepth 100000 in
theorem impl_worths.calls (k : Nat) (A0 : Option Addr) (c0 : Nat) (l0 : List (S40)) (A1 : Option Addr) (c1 : Nat) (l1 : List Int) (r : List Int) (w : World) (hr0 : Kd.C k40 w A0 l0.length l0) (hc0 : l0.length ≤ c0) (hr1 : Kd.C (Kd.int .i64) w A1 l1.length l1) (hc1 : l1.length ≤ c1) (h : impl_worths.f k l0 l1 = some r) :
  Calls Try.prog 34 #[.slice A0 l0.length c0, .slice A1 l1.length c1] w fun e w' => ∃ v0_ : Value, e = .returned (v0_) ∧ Kd.R (Kd.int .i64) 2 w' w.heap.size (fun _ => True) v0_ r ∧ Below w.heap.size w w' := by
 have hu40 := Try.underlying40
 have HR0 := Aside0.mk hr0
 have HC0 := Aside0.mk hc0
 clear hr0 hc0
 have HR1 := Aside0.mk hr1
 have HC1 := Aside0.mk hc1
 clear hr1 hc1
 have HB := Aside0.mk (Below.refl w.heap.size w)
 have H : (if 0 ≤ (l0.length : Int) then (if ((l0.length : Int) : Int).toNat ≤ 35184372088832 then (impl_worths.l0 k l0 (List.replicate ((l0.length : Int) : Int).toNat 0) l1 (l1.length : Int) 0) else (none)) else (none)) = some r := h
 clear h
 by_cases c3 : 0 ≤ (l0.length : Int)
 ·rw [if_pos c3] at H
  have c3b0 := eq_true c3
  have c3b1 : decide (0 ≤ (l0.length : Int)) = true := decide_eq_true c3
  clear c3
  by_cases c4 : ((l0.length : Int) : Int).toNat ≤ 35184372088832
  ·rw [if_pos c4] at H
   have c4b0 := eq_true c4
   have c4b1 : decide (((l0.length : Int) : Int).toNat ≤ 35184372088832) = true := decide_eq_true c4
   clear c4
   obtain ⟨y159, hy159⟩ : ∃ y_ : List Int, y_ = (List.replicate ((l0.length : Int) : Int).toNat 0) := ⟨_, rfl⟩
   replace H : (impl_worths.l0 k l0 y159 l1 (l1.length : Int) 0) = some r := by first | (rw [hy159]; with_reducible exact H) | (have H2_ := (Option.bind_some _ _).symm.trans H; rw [hy159]; with_reducible exact H2_) | (have H2_ := (Option.bind_some _ _).symm.trans H; with_reducible exact H2_) | with_reducible exact H | (rw [hy159]; exact H) | exact H
   have Ny159 := Aside0.mk hy159
   clear hy159
   have H' := Aside0.mk H
   clear H
   go_enter Try.func34, Try.ntmps34
   go_wp2_with (first | ((with_reducible refine gate_dst (N := 10) rfl ?_); refine Kd.R_make (Kd.int .i64) _ 2 rfl (N := 10) rfl 27 _ _ rfl (l0.length : Int) rfl rfl Try.underlying27 (.int .i64 0) 8 info2 rfl (by decide) (by omega) 0 (ok := fun _ => True) (okp := fun _ => True) rfl (fun _ hk => hk) trivial (of_decide_eq_true (by first | (with_reducible assumption) | assumption)) (Nat.le_trans (Nat.mul_le_mul_right _ (of_decide_eq_true (by first | (with_reducible assumption) | assumption) : (l0.length : Int).toNat ≤ 35184372088832)) (by omega)) (Below.refl _ _) (Nat.le_refl _) ?_; intro v160 w5 ho6 hb hg_ hnew_; clear hg_ hnew_; (first | rw [← Ny159.out] at ho6 | (simp only [Int.reduceToNat] at ho6; rw [← Ny159.out] at ho6)); have n0_ := Aside0.mk (Kd.R_lower ho6 (below_size (by repeat (first | (with_reducible first | exact HB.out | apply below_alloc | apply pw_below_drewN | apply below_drew1) | exact HB.out)))); have n1_ := Aside0.mk (below_step (by repeat (first | (with_reducible first | exact HB.out | apply below_alloc | apply pw_below_drewN | apply below_drew1) | exact HB.out)) hb); clear HB; have HO161 := n0_; have HB := n1_; clear n0_ n1_; clear hb ho6))
   go_loopg [13] k (fun kq v13 w' => ∃ (x5_1 : List Int) (x13_1 : Int), v13 = .int .i64 x13_1 ∧ Aside0 (impl_worths.l0 kq l0 x5_1 l1 (l1.length : Int) x13_1 = some r) ∧ Aside0 (kq ≤ k) ∧ Aside0 (Kd.R (Kd.int .i64) 2 w' w.heap.size (fun _ => True) v160 x5_1) ∧ Aside0 (Below w.heap.size w w'))
   case atStart => exact ⟨(y159), (0), (by first | rfl | (simp; done) | (simp [*]; done)), H', ⟨Nat.le_refl _⟩, ⟨by (with_reducible repeat (first | apply Kd.R_alloc | apply Kd.R_drewN | apply Kd.R_drew)); exact HO161.out⟩, ⟨by repeat (first | (with_reducible first | exact HB.out | apply below_alloc | apply pw_below_drewN | apply below_drew1) | exact HB.out)⟩⟩
   case round =>
    clear H'
    try clear c1
    try clear p2
    try clear c3
    try clear c3b0
    try clear c3b1
    try clear c4
    try clear c4b0
    try clear c4b1
    obtain ⟨x5_1, x13_1, rfl, HA, HK1, HO_5, HB⟩ := hrel
    cases gk with
    | zero => exact absurd HA.out (by simp [impl_worths.l0])
    | succ k1 =>
     have H := HA.out
     clear HA
     simp only [impl_worths.l0] at H
     by_cases c7 : x13_1 < (l1.length : Int)
     ·rw [if_pos c7] at H
      have c7b0 : decide (x13_1 < (l1.length : Int)) = true := decide_eq_true c7
      clear c7
      by_cases c8 : 0 ≤ x13_1
      ·rw [if_pos c8] at H
       have c8b0 : decide (0 ≤ x13_1) = true := decide_eq_true c8
       clear c8
       by_cases c9 : x13_1 < (l1.length : Int)
       ·rw [if_pos c9] at H
        have c9b0 : decide (x13_1 < (l1.length : Int)) = true := decide_eq_true c9
        clear c9
        by_cases c10 : (rd l1 x13_1) ≥ 0
        ·rw [if_pos c10] at H
         have c10b0 : decide (0 ≤ (rd l1 x13_1)) = true := decide_eq_true c10
         clear c10
         by_cases c11 : x13_1 < (l0.length : Int)
         ·rw [if_pos c11] at H
          have c11b0 : decide (x13_1 < (l0.length : Int)) = true := decide_eq_true c11
          clear c11
          replace H := Option.bind_eq_some_iff.mp H
          obtain ⟨t164, A120, H⟩ := H
          replace H : (if x13_1 < (x5_1.length : Int) then (impl_worths.l0 k1 l0 (x5_1.set (x13_1 : Int).toNat t164) l1 (l1.length : Int) (wrap64 (x13_1 + 1))) else (none)) = some r := H
          have A12 := Aside0.mk A120
          clear A120
          by_cases c13 : x13_1 < (x5_1.length : Int)
          ·rw [if_pos c13] at H
           have c13b0 : decide (x13_1 < (x5_1.length : Int)) = true := decide_eq_true c13
           clear c13
           obtain ⟨y165, hy165⟩ : ∃ y_ : List Int, y_ = (x5_1.set (x13_1 : Int).toNat t164) := ⟨_, rfl⟩
           replace H : (impl_worths.l0 k1 l0 y165 l1 (l1.length : Int) (wrap64 (x13_1 + 1))) = some r := by first | (rw [hy165]; with_reducible exact H) | (have H2_ := (Option.bind_some _ _).symm.trans H; rw [hy165]; with_reducible exact H2_) | (have H2_ := (Option.bind_some _ _).symm.trans H; with_reducible exact H2_) | with_reducible exact H | (rw [hy165]; exact H) | exact H
           have Ny165 := Aside0.mk hy165
           clear hy165
           have H' := Aside0.mk H
           clear H
           have p162 : 0 ≤ (x13_1 : Int) := of_decide_eq_true (by first | (with_reducible assumption) | assumption)
           have q162 : x13_1 < (l1.length : Int) := of_decide_eq_true (by first | (with_reducible assumption) | assumption)
           obtain ⟨ad162, e162, hx162_0⟩ := Kd.at_int HR1.out x13_1 p162 q162
           cases e162
           replace hx162_0 := (HB.out.cell (World.block_lt_of_cell? w _ hx162_0)).trans hx162_0
           replace p162 := eq_true p162
           replace q162 := eq_true q162
           have p163 : 0 ≤ (x13_1 : Int) := of_decide_eq_true (by first | (with_reducible assumption) | assumption)
           have q163 : x13_1 < (l0.length : Int) := of_decide_eq_true (by first | (with_reducible assumption) | assumption)
           obtain ⟨ad163, e163, hx163_0, hx163_1, hx163_2, hx163_3⟩ := at_T40 HR0.out x13_1 p163 q163
           cases e163
           replace hx163_0 := (HB.out.cell (World.block_lt_of_cell? w _ hx163_0)).trans hx163_0
           replace hx163_1 := (HB.out.cell (World.block_lt_of_cell? w _ hx163_1)).trans hx163_1
           replace hx163_2 := (HB.out.cell (World.block_lt_of_cell? w _ hx163_2)).trans hx163_2
           replace hx163_3 := (HB.out.cell (World.block_lt_of_cell? w _ hx163_3)).trans hx163_3
           replace p163 := eq_true p163
           replace q163 := eq_true q163
           go_wp2_with (first | ((with_reducible refine gate_callee (f := 32) rfl ?_); refine goesL_ (some 27) rfl rfl Try.func32 (by kernel_rfl) rfl #[.agg #[.int .i16 ((rd_T40 l0 x13_1).f0), .int .i16 ((rd_T40 l0 x13_1).f1), .int .i16 ((rd_T40 l0 x13_1).f2), .int .i16 ((rd_T40 l0 x13_1).f3)], .int .i64 (rd l1 x13_1)] rfl (by (try simp only [List.map_toArray, List.map_cons, List.map_nil]); first | done | rfl | (simp only [List.length_drop, List.length_take]; rfl)) ?_; (with_reducible refine (impl_Plot_worth.calls ((rd_T40 l0 x13_1).f0) ((rd_T40 l0 x13_1).f1) ((rd_T40 l0 x13_1).f2) ((rd_T40 l0 x13_1).f3) (rd l1 x13_1) t164 _ A12.out).mono ?_); rintro e w15 ⟨rfl, hb⟩; refine ⟨_, rfl, ?_⟩; have n0_ := Aside0.mk (Kd.R_below (by (with_reducible repeat (first | apply Kd.R_alloc | apply Kd.R_drewN | apply Kd.R_drew)); exact HO_5.out) hb); have n1_ := Aside0.mk (below_step (by repeat (first | (with_reducible first | exact HB.out | apply below_alloc | apply pw_below_drewN | apply below_drew1) | exact HB.out)) hb); clear HO_5; clear HB; have HO_5 := n0_; have HB := n1_; clear n0_ n1_; (try clear hb); (try clear hb2); (try clear hk); (try clear hi); have p14 : 0 ≤ (x13_1 : Int) := of_decide_eq_true (by first | (with_reducible assumption) | assumption); have q14 : (x13_1 : Int) < ((x5_1.length : Int) : Int) := of_decide_eq_true (by first | (with_reducible assumption) | assumption); obtain ⟨go14, co14, eo14, gb14, gl14, cl14, HG14⟩ := Kd.R_form HO_5.out (by omega); (first | cases eo14 | (injection eo14 with ea_ en_ ec_; (first | subst ea_ | (injection ea_ with ea_; subst ea_)); subst ec_; clear en_)); have GB14 := Aside0.mk gb14; have GG14 := Aside0.mk HG14; clear gb14 gl14 HG14; obtain ⟨hx14_0, hf14_0⟩ := Kd.R_celln 0 HO_5.out (x13_1 : Int) p14 q14; replace p14 := eq_true p14; replace q14 := eq_true q14; obtain ⟨hy16_, hz16_⟩ := Kd.R_celln 0 HO_5.out (x13_1 : Int) (of_decide_eq_true (by first | (with_reducible assumption) | assumption)) (of_decide_eq_true (by first | (with_reducible assumption) | assumption)); have HP16 := Kd.R_putg HO_5.out (x13_1 : Int) t164) | ((with_reducible refine gate_store (t := 2) (p := 28) rfl ?_); refine store_event (t := 2) (p := 28) (v := ?vo_w17) (w1 := (w15.setCell ⟨go14, (x13_1 : Int).toNat, none⟩ (.int .i64 t164))) ?hg ?ho ?hn ?hr ?_; (case ho => rfl); (case hg => rfl); (case hn => rfl); (case hr => first | (go_simp; done) | (go_simp; rfl)); intro w17 hw; have hg : w15.grownBy w17 (some go14) := (by rw [hw]; exact HP16.2); have hp_ : Kd.R (Kd.int .i64) 2 w17 w.heap.size (fun _ => True) (.slice (some ⟨go14, 0, none⟩) x5_1.length co14) y165 := (by rw [hw, Ny165.out]; exact HP16.1); clear HP16; have n0_ := Aside0.mk (hp_); have n1_ := Aside0.mk ((by rw [hw]; exact below_set (HB.out) GB14.out : Below w.heap.size w w17)); clear HO_5; clear HB; have HO_5 := n0_; have HB := n1_; clear n0_ n1_; clear hg hw hp_))
           go_roundg k1
           case measure => have := HK1.out; omega
           case rel => exact ⟨(y165), (wrap64 (x13_1 + 1)), (by first | rfl | (simp; done) | (simp [*]; done)), H', ⟨by have := HK1.out; omega⟩, ⟨by (with_reducible repeat (first | apply Kd.R_alloc | apply Kd.R_drewN | apply Kd.R_drew)); exact HO_5.out⟩, ⟨by repeat (first | (with_reducible first | exact HB.out | apply below_alloc | apply pw_below_drewN | apply below_drew1) | exact HB.out)⟩⟩
          ·rw [if_neg c13] at H
           exact absurd H (by simp)
         ·rw [if_neg c11] at H
          exact absurd H (by simp)
        ·rw [if_neg c10] at H
         have c10b0 : decide (0 ≤ (rd l1 x13_1)) = false := decide_eq_false c10
         clear c10
         have H' := Aside0.mk H
         clear H
         have p162 : 0 ≤ (x13_1 : Int) := of_decide_eq_true (by first | (with_reducible assumption) | assumption)
         have q162 : x13_1 < (l1.length : Int) := of_decide_eq_true (by first | (with_reducible assumption) | assumption)
         obtain ⟨ad162, e162, hx162_0⟩ := Kd.at_int HR1.out x13_1 p162 q162
         cases e162
         replace hx162_0 := (HB.out.cell (World.block_lt_of_cell? w _ hx162_0)).trans hx162_0
         replace p162 := eq_true p162
         replace q162 := eq_true q162
         go_wp2
         go_roundg k1
         case measure => have := HK1.out; omega
         case rel => exact ⟨(x5_1), (wrap64 (x13_1 + 1)), (by first | rfl | (simp; done) | (simp [*]; done)), H', ⟨by have := HK1.out; omega⟩, ⟨by (with_reducible repeat (first | apply Kd.R_alloc | apply Kd.R_drewN | apply Kd.R_drew)); exact HO_5.out⟩, ⟨by repeat (first | (with_reducible first | exact HB.out | apply below_alloc | apply pw_below_drewN | apply below_drew1) | exact HB.out)⟩⟩
       ·rw [if_neg c9] at H
        exact absurd H (by simp)
      ·rw [if_neg c8] at H
       exact absurd H (by simp)
     ·rw [if_neg c7] at H
      have c7b0 : decide (x13_1 < (l1.length : Int)) = false := decide_eq_false c7
      clear c7
      obtain rfl := Option.some.inj H
      go_wp2
      go_ret
      exact ⟨_, by first | rfl | (simp [errW_none, errW_some] <;> rfl) | (simp [*, errW_none, errW_some] <;> rfl), by (with_reducible repeat (first | apply Kd.R_alloc | apply Kd.R_drewN | apply Kd.R_drew)); exact HO_5.out, by repeat (first | (with_reducible first | exact HB.out | apply below_alloc | apply pw_below_drewN | apply below_drew1) | exact HB.out)⟩
  ·rw [if_neg c4] at H
   exact absurd H (by simp)
 ·rw [if_neg c3] at H
  exact absurd H (by simp)

end Go.Proofs.Ytokeeplkbgdokaa.Pq

/- Functions of the program as Lean functions, each with a proof that a call of it comes to just that. Written by this session's program wip/tools/myprint.py. -/
namespace Go.Proofs.Ytokeeplkbgdokaa.Pq
open Go.RowKit Go.Proofs.YtokeeplkbgdokaaW.PrintWords Go.Proofs.YtokeeplkbgdokaaW.PrintLast Go.Proofs.YtokeeplkbgdokaaW.PrintMore
attribute [local go_sem] max2_int min2_int max_two min_two max_three min_three max_four min_four   -- for this text's walks alone
set_option linter.unusedVariables false
set_option linter.unusedSimpArgs false

/-! ### bits_OnesCount64: function 57 -/
def bits_OnesCount64.f (a0 : Int) : Option (Int) := some (Go.bits .and .i64 (wrap64 (IntKind.u64.wrap ((IntKind.u64.wrap ((IntKind.u64.wrap ((Go.bits .and .u64 (IntKind.u64.wrap (((IntKind.u64.wrap ((Go.bits .and .u64 ((IntKind.u64.wrap ((Go.bits .and .u64 (a0 / 2) 6148914691236517205) + (Go.bits .and .u64 a0 6148914691236517205))) / 4) 3689348814741910323) + (Go.bits .and .u64 (IntKind.u64.wrap ((Go.bits .and .u64 (a0 / 2) 6148914691236517205) + (Go.bits .and .u64 a0 6148914691236517205))) 3689348814741910323))) / 16) + (IntKind.u64.wrap ((Go.bits .and .u64 ((IntKind.u64.wrap ((Go.bits .and .u64 (a0 / 2) 6148914691236517205) + (Go.bits .and .u64 a0 6148914691236517205))) / 4) 3689348814741910323) + (Go.bits .and .u64 (IntKind.u64.wrap ((Go.bits .and .u64 (a0 / 2) 6148914691236517205) + (Go.bits .and .u64 a0 6148914691236517205))) 3689348814741910323))))) 1085102592571150095) + ((Go.bits .and .u64 (IntKind.u64.wrap (((IntKind.u64.wrap ((Go.bits .and .u64 ((IntKind.u64.wrap ((Go.bits .and .u64 (a0 / 2) 6148914691236517205) + (Go.bits .and .u64 a0 6148914691236517205))) / 4) 3689348814741910323) + (Go.bits .and .u64 (IntKind.u64.wrap ((Go.bits .and .u64 (a0 / 2) 6148914691236517205) + (Go.bits .and .u64 a0 6148914691236517205))) 3689348814741910323))) / 16) + (IntKind.u64.wrap ((Go.bits .and .u64 ((IntKind.u64.wrap ((Go.bits .and .u64 (a0 / 2) 6148914691236517205) + (Go.bits .and .u64 a0 6148914691236517205))) / 4) 3689348814741910323) + (Go.bits .and .u64 (IntKind.u64.wrap ((Go.bits .and .u64 (a0 / 2) 6148914691236517205) + (Go.bits .and .u64 a0 6148914691236517205))) 3689348814741910323))))) 1085102592571150095) / 256))) + ((IntKind.u64.wrap ((Go.bits .and .u64 (IntKind.u64.wrap (((IntKind.u64.wrap ((Go.bits .and .u64 ((IntKind.u64.wrap ((Go.bits .and .u64 (a0 / 2) 6148914691236517205) + (Go.bits .and .u64 a0 6148914691236517205))) / 4) 3689348814741910323) + (Go.bits .and .u64 (IntKind.u64.wrap ((Go.bits .and .u64 (a0 / 2) 6148914691236517205) + (Go.bits .and .u64 a0 6148914691236517205))) 3689348814741910323))) / 16) + (IntKind.u64.wrap ((Go.bits .and .u64 ((IntKind.u64.wrap ((Go.bits .and .u64 (a0 / 2) 6148914691236517205) + (Go.bits .and .u64 a0 6148914691236517205))) / 4) 3689348814741910323) + (Go.bits .and .u64 (IntKind.u64.wrap ((Go.bits .and .u64 (a0 / 2) 6148914691236517205) + (Go.bits .and .u64 a0 6148914691236517205))) 3689348814741910323))))) 1085102592571150095) + ((Go.bits .and .u64 (IntKind.u64.wrap (((IntKind.u64.wrap ((Go.bits .and .u64 ((IntKind.u64.wrap ((Go.bits .and .u64 (a0 / 2) 6148914691236517205) + (Go.bits .and .u64 a0 6148914691236517205))) / 4) 3689348814741910323) + (Go.bits .and .u64 (IntKind.u64.wrap ((Go.bits .and .u64 (a0 / 2) 6148914691236517205) + (Go.bits .and .u64 a0 6148914691236517205))) 3689348814741910323))) / 16) + (IntKind.u64.wrap ((Go.bits .and .u64 ((IntKind.u64.wrap ((Go.bits .and .u64 (a0 / 2) 6148914691236517205) + (Go.bits .and .u64 a0 6148914691236517205))) / 4) 3689348814741910323) + (Go.bits .and .u64 (IntKind.u64.wrap ((Go.bits .and .u64 (a0 / 2) 6148914691236517205) + (Go.bits .and .u64 a0 6148914691236517205))) 3689348814741910323))))) 1085102592571150095) / 256))) / 65536))) + ((IntKind.u64.wrap ((IntKind.u64.wrap ((Go.bits .and .u64 (IntKind.u64.wrap (((IntKind.u64.wrap ((Go.bits .and .u64 ((IntKind.u64.wrap ((Go.bits .and .u64 (a0 / 2) 6148914691236517205) + (Go.bits .and .u64 a0 6148914691236517205))) / 4) 3689348814741910323) + (Go.bits .and .u64 (IntKind.u64.wrap ((Go.bits .and .u64 (a0 / 2) 6148914691236517205) + (Go.bits .and .u64 a0 6148914691236517205))) 3689348814741910323))) / 16) + (IntKind.u64.wrap ((Go.bits .and .u64 ((IntKind.u64.wrap ((Go.bits .and .u64 (a0 / 2) 6148914691236517205) + (Go.bits .and .u64 a0 6148914691236517205))) / 4) 3689348814741910323) + (Go.bits .and .u64 (IntKind.u64.wrap ((Go.bits .and .u64 (a0 / 2) 6148914691236517205) + (Go.bits .and .u64 a0 6148914691236517205))) 3689348814741910323))))) 1085102592571150095) + ((Go.bits .and .u64 (IntKind.u64.wrap (((IntKind.u64.wrap ((Go.bits .and .u64 ((IntKind.u64.wrap ((Go.bits .and .u64 (a0 / 2) 6148914691236517205) + (Go.bits .and .u64 a0 6148914691236517205))) / 4) 3689348814741910323) + (Go.bits .and .u64 (IntKind.u64.wrap ((Go.bits .and .u64 (a0 / 2) 6148914691236517205) + (Go.bits .and .u64 a0 6148914691236517205))) 3689348814741910323))) / 16) + (IntKind.u64.wrap ((Go.bits .and .u64 ((IntKind.u64.wrap ((Go.bits .and .u64 (a0 / 2) 6148914691236517205) + (Go.bits .and .u64 a0 6148914691236517205))) / 4) 3689348814741910323) + (Go.bits .and .u64 (IntKind.u64.wrap ((Go.bits .and .u64 (a0 / 2) 6148914691236517205) + (Go.bits .and .u64 a0 6148914691236517205))) 3689348814741910323))))) 1085102592571150095) / 256))) + ((IntKind.u64.wrap ((Go.bits .and .u64 (IntKind.u64.wrap (((IntKind.u64.wrap ((Go.bits .and .u64 ((IntKind.u64.wrap ((Go.bits .and .u64 (a0 / 2) 6148914691236517205) + (Go.bits .and .u64 a0 6148914691236517205))) / 4) 3689348814741910323) + (Go.bits .and .u64 (IntKind.u64.wrap ((Go.bits .and .u64 (a0 / 2) 6148914691236517205) + (Go.bits .and .u64 a0 6148914691236517205))) 3689348814741910323))) / 16) + (IntKind.u64.wrap ((Go.bits .and .u64 ((IntKind.u64.wrap ((Go.bits .and .u64 (a0 / 2) 6148914691236517205) + (Go.bits .and .u64 a0 6148914691236517205))) / 4) 3689348814741910323) + (Go.bits .and .u64 (IntKind.u64.wrap ((Go.bits .and .u64 (a0 / 2) 6148914691236517205) + (Go.bits .and .u64 a0 6148914691236517205))) 3689348814741910323))))) 1085102592571150095) + ((Go.bits .and .u64 (IntKind.u64.wrap (((IntKind.u64.wrap ((Go.bits .and .u64 ((IntKind.u64.wrap ((Go.bits .and .u64 (a0 / 2) 6148914691236517205) + (Go.bits .and .u64 a0 6148914691236517205))) / 4) 3689348814741910323) + (Go.bits .and .u64 (IntKind.u64.wrap ((Go.bits .and .u64 (a0 / 2) 6148914691236517205) + (Go.bits .and .u64 a0 6148914691236517205))) 3689348814741910323))) / 16) + (IntKind.u64.wrap ((Go.bits .and .u64 ((IntKind.u64.wrap ((Go.bits .and .u64 (a0 / 2) 6148914691236517205) + (Go.bits .and .u64 a0 6148914691236517205))) / 4) 3689348814741910323) + (Go.bits .and .u64 (IntKind.u64.wrap ((Go.bits .and .u64 (a0 / 2) 6148914691236517205) + (Go.bits .and .u64 a0 6148914691236517205))) 3689348814741910323))))) 1085102592571150095) / 256))) / 65536))) / 4294967296)))) 127)
set_option maxHeartbeats 8000000 in
set_option maxRecDepth 100000 in
theorem bits_OnesCount64.calls (a0 : Int) (r : Int) (w : World) (h : bits_OnesCount64.f a0 = some r) :
  Calls Try.prog 57 #[.int .u64 a0] w fun e w' => e = .returned (.int .i64 r) ∧ Drawn0 w w' := by
 have H : (some (Go.bits .and .i64 (wrap64 (IntKind.u64.wrap ((IntKind.u64.wrap ((IntKind.u64.wrap ((Go.bits .and .u64 (IntKind.u64.wrap (((IntKind.u64.wrap ((Go.bits .and .u64 ((IntKind.u64.wrap ((Go.bits .and .u64 (a0 / 2) 6148914691236517205) + (Go.bits .and .u64 a0 6148914691236517205))) / 4) 3689348814741910323) + (Go.bits .and .u64 (IntKind.u64.wrap ((Go.bits .and .u64 (a0 / 2) 6148914691236517205) + (Go.bits .and .u64 a0 6148914691236517205))) 3689348814741910323))) / 16) + (IntKind.u64.wrap ((Go.bits .and .u64 ((IntKind.u64.wrap ((Go.bits .and .u64 (a0 / 2) 6148914691236517205) + (Go.bits .and .u64 a0 6148914691236517205))) / 4) 3689348814741910323) + (Go.bits .and .u64 (IntKind.u64.wrap ((Go.bits .and .u64 (a0 / 2) 6148914691236517205) + (Go.bits .and .u64 a0 6148914691236517205))) 3689348814741910323))))) 1085102592571150095) + ((Go.bits .and .u64 (IntKind.u64.wrap (((IntKind.u64.wrap ((Go.bits .and .u64 ((IntKind.u64.wrap ((Go.bits .and .u64 (a0 / 2) 6148914691236517205) + (Go.bits .and .u64 a0 6148914691236517205))) / 4) 3689348814741910323) + (Go.bits .and .u64 (IntKind.u64.wrap ((Go.bits .and .u64 (a0 / 2) 6148914691236517205) + (Go.bits .and .u64 a0 6148914691236517205))) 3689348814741910323))) / 16) + (IntKind.u64.wrap ((Go.bits .and .u64 ((IntKind.u64.wrap ((Go.bits .and .u64 (a0 / 2) 6148914691236517205) + (Go.bits .and .u64 a0 6148914691236517205))) / 4) 3689348814741910323) + (Go.bits .and .u64 (IntKind.u64.wrap ((Go.bits .and .u64 (a0 / 2) 6148914691236517205) + (Go.bits .and .u64 a0 6148914691236517205))) 3689348814741910323))))) 1085102592571150095) / 256))) + ((IntKind.u64.wrap ((Go.bits .and .u64 (IntKind.u64.wrap (((IntKind.u64.wrap ((Go.bits .and .u64 ((IntKind.u64.wrap ((Go.bits .and .u64 (a0 / 2) 6148914691236517205) + (Go.bits .and .u64 a0 6148914691236517205))) / 4) 3689348814741910323) + (Go.bits .and .u64 (IntKind.u64.wrap ((Go.bits .and .u64 (a0 / 2) 6148914691236517205) + (Go.bits .and .u64 a0 6148914691236517205))) 3689348814741910323))) / 16) + (IntKind.u64.wrap ((Go.bits .and .u64 ((IntKind.u64.wrap ((Go.bits .and .u64 (a0 / 2) 6148914691236517205) + (Go.bits .and .u64 a0 6148914691236517205))) / 4) 3689348814741910323) + (Go.bits .and .u64 (IntKind.u64.wrap ((Go.bits .and .u64 (a0 / 2) 6148914691236517205) + (Go.bits .and .u64 a0 6148914691236517205))) 3689348814741910323))))) 1085102592571150095) + ((Go.bits .and .u64 (IntKind.u64.wrap (((IntKind.u64.wrap ((Go.bits .and .u64 ((IntKind.u64.wrap ((Go.bits .and .u64 (a0 / 2) 6148914691236517205) + (Go.bits .and .u64 a0 6148914691236517205))) / 4) 3689348814741910323) + (Go.bits .and .u64 (IntKind.u64.wrap ((Go.bits .and .u64 (a0 / 2) 6148914691236517205) + (Go.bits .and .u64 a0 6148914691236517205))) 3689348814741910323))) / 16) + (IntKind.u64.wrap ((Go.bits .and .u64 ((IntKind.u64.wrap ((Go.bits .and .u64 (a0 / 2) 6148914691236517205) + (Go.bits .and .u64 a0 6148914691236517205))) / 4) 3689348814741910323) + (Go.bits .and .u64 (IntKind.u64.wrap ((Go.bits .and .u64 (a0 / 2) 6148914691236517205) + (Go.bits .and .u64 a0 6148914691236517205))) 3689348814741910323))))) 1085102592571150095) / 256))) / 65536))) + ((IntKind.u64.wrap ((IntKind.u64.wrap ((Go.bits .and .u64 (IntKind.u64.wrap (((IntKind.u64.wrap ((Go.bits .and .u64 ((IntKind.u64.wrap ((Go.bits .and .u64 (a0 / 2) 6148914691236517205) + (Go.bits .and .u64 a0 6148914691236517205))) / 4) 3689348814741910323) + (Go.bits .and .u64 (IntKind.u64.wrap ((Go.bits .and .u64 (a0 / 2) 6148914691236517205) + (Go.bits .and .u64 a0 6148914691236517205))) 3689348814741910323))) / 16) + (IntKind.u64.wrap ((Go.bits .and .u64 ((IntKind.u64.wrap ((Go.bits .and .u64 (a0 / 2) 6148914691236517205) + (Go.bits .and .u64 a0 6148914691236517205))) / 4) 3689348814741910323) + (Go.bits .and .u64 (IntKind.u64.wrap ((Go.bits .and .u64 (a0 / 2) 6148914691236517205) + (Go.bits .and .u64 a0 6148914691236517205))) 3689348814741910323))))) 1085102592571150095) + ((Go.bits .and .u64 (IntKind.u64.wrap (((IntKind.u64.wrap ((Go.bits .and .u64 ((IntKind.u64.wrap ((Go.bits .and .u64 (a0 / 2) 6148914691236517205) + (Go.bits .and .u64 a0 6148914691236517205))) / 4) 3689348814741910323) + (Go.bits .and .u64 (IntKind.u64.wrap ((Go.bits .and .u64 (a0 / 2) 6148914691236517205) + (Go.bits .and .u64 a0 6148914691236517205))) 3689348814741910323))) / 16) + (IntKind.u64.wrap ((Go.bits .and .u64 ((IntKind.u64.wrap ((Go.bits .and .u64 (a0 / 2) 6148914691236517205) + (Go.bits .and .u64 a0 6148914691236517205))) / 4) 3689348814741910323) + (Go.bits .and .u64 (IntKind.u64.wrap ((Go.bits .and .u64 (a0 / 2) 6148914691236517205) + (Go.bits .and .u64 a0 6148914691236517205))) 3689348814741910323))))) 1085102592571150095) / 256))) + ((IntKind.u64.wrap ((Go.bits .and .u64 (IntKind.u64.wrap (((IntKind.u64.wrap ((Go.bits .and .u64 ((IntKind.u64.wrap ((Go.bits .and .u64 (a0 / 2) 6148914691236517205) + (Go.bits .and .u64 a0 6148914691236517205))) / 4) 3689348814741910323) + (Go.bits .and .u64 (IntKind.u64.wrap ((Go.bits .and .u64 (a0 / 2) 6148914691236517205) + (Go.bits .and .u64 a0 6148914691236517205))) 3689348814741910323))) / 16) + (IntKind.u64.wrap ((Go.bits .and .u64 ((IntKind.u64.wrap ((Go.bits .and .u64 (a0 / 2) 6148914691236517205) + (Go.bits .and .u64 a0 6148914691236517205))) / 4) 3689348814741910323) + (Go.bits .and .u64 (IntKind.u64.wrap ((Go.bits .and .u64 (a0 / 2) 6148914691236517205) + (Go.bits .and .u64 a0 6148914691236517205))) 3689348814741910323))))) 1085102592571150095) + ((Go.bits .and .u64 (IntKind.u64.wrap (((IntKind.u64.wrap ((Go.bits .and .u64 ((IntKind.u64.wrap ((Go.bits .and .u64 (a0 / 2) 6148914691236517205) + (Go.bits .and .u64 a0 6148914691236517205))) / 4) 3689348814741910323) + (Go.bits .and .u64 (IntKind.u64.wrap ((Go.bits .and .u64 (a0 / 2) 6148914691236517205) + (Go.bits .and .u64 a0 6148914691236517205))) 3689348814741910323))) / 16) + (IntKind.u64.wrap ((Go.bits .and .u64 ((IntKind.u64.wrap ((Go.bits .and .u64 (a0 / 2) 6148914691236517205) + (Go.bits .and .u64 a0 6148914691236517205))) / 4) 3689348814741910323) + (Go.bits .and .u64 (IntKind.u64.wrap ((Go.bits .and .u64 (a0 / 2) 6148914691236517205) + (Go.bits .and .u64 a0 6148914691236517205))) 3689348814741910323))))) 1085102592571150095) / 256))) / 65536))) / 4294967296)))) 127)) = some r := h
 clear h
 obtain rfl := Option.some.inj H
 go_enter Try.func57, Try.ntmps57
 go_wp2
 go_ret
 exact ⟨by first | rfl | (simp; done) | (simp [*]; done), by repeat (first | exact Drawn0.refl _ | apply Drawn0.step)⟩

end Go.Proofs.Ytokeeplkbgdokaa.Pq

namespace Go.Proofs.Ytokeeplkbgdokaa.Pq
open Go.RowKit Go.Proofs.YtokeeplkbgdokaaW.PrintWords Go.Proofs.YtokeeplkbgdokaaW.PrintLast Go.Proofs.YtokeeplkbgdokaaW.PrintMore
attribute [local go_sem] max2_int min2_int max_two min_two max_three min_three max_four min_four   -- for this text's walks alone
set_option linter.unusedVariables false
set_option linter.unusedSimpArgs false

/-! ### bits_OnesCount: function 53 -/
def bits_OnesCount.f (a0 : Int) : Option (Int) := (bits_OnesCount64.f a0).bind fun t166 => (some t166)
set_option maxHeartbeats 8000000 in
set_option maxRecDepth 100000 in
theorem bits_OnesCount.calls (a0 : Int) (r : Int) (w : World) (h : bits_OnesCount.f a0 = some r) :
  Calls Try.prog 53 #[.int .u64 a0] w fun e w' => e = .returned (.int .i64 r) ∧ Drawn0 w w' := by
 have H : ((bits_OnesCount64.f a0).bind fun t166 => (some t166)) = some r := h
 clear h
 replace H := Option.bind_eq_some_iff.mp H
 obtain ⟨t166, A20, H⟩ := H
 replace H : (some t166) = some r := H
 have A2 := Aside0.mk A20
 clear A20
 obtain rfl := Option.some.inj H
 go_enter Try.func53, Try.ntmps53
 go_wp2_with (first | ((with_reducible refine gate_callee (f := 57) rfl ?_); refine goesL_ (some 7) rfl rfl Try.func57 (by kernel_rfl) rfl #[.int .u64 a0] rfl (by (try simp only [List.map_toArray, List.map_cons, List.map_nil]); first | done | rfl | (simp only [List.length_drop, List.length_take]; rfl)) ?_; (with_reducible refine (bits_OnesCount64.calls a0 t166 _ A2.out).mono ?_); rintro e w' ⟨rfl, ⟨nd, rfl⟩⟩; refine ⟨_, rfl, ?_⟩))
 go_ret
 exact ⟨by first | rfl | (simp; done) | (simp [*]; done), by repeat (first | exact Drawn0.refl _ | apply Drawn0.step)⟩

end Go.Proofs.Ytokeeplkbgdokaa.Pq
