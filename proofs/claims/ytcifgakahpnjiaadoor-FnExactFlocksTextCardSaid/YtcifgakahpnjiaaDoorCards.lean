/-
  DERIVED. GIVEN WITH THE SEED: THE CARDS: each row of YtcifgakahpnjiaaDoorRows.lean that lists a variable, with what it lists TIED to the program's text (the seventh form; the later family's looks); each row that meets fmt, with fmt's text TOLD by the authors' own Lean function (tested against real Go, not proved from fmt's source: count such statements apart). THE CARD IS WHAT COUNTS. Prove the row's statement (the work); the ties are given (YtcifgakahpnjiaaDoorTie.lean); close each card by the builder's one call (the guide's Derived/Test/ToyasCard.lean, 'card_holds'). Laid BY PROGRAM, IN A SANDBOX (cutbox-door.mjs). By AI agents, Wed Nov 11 2026. No macro, syntax, notation, axiom, sorry.
-/
import Derived.Test.YtcifgakahpnjiaaDoorRows
import GoSem.ClaimSeven
namespace Go.Proofs.YtcifgakahpnjiaaDoor
namespace Rows

/-- THE TIED CARD OF 'laws.FnExactDiaryText'. -/
def fnExactDiaryTextCard : Claim7 := { stood := { row := fnExactDiaryTextRow, standIns := [], harness := (true, "28d73f93278a5ecd93796637fe73a0a75e6fa6f89e79f304ab80a3742e4736d2"), looks := false }, kinds := [], alts := [], laidByText := true, laidKinds := [.data, .data, .data], laidTests := true, laidLooks := .later }
def FnExactDiaryTextCardSaid : Prop := Claim7.holds Tryd.pinned (.plain (OpenSpec.ofChange fnExactDiaryTextSpec)) fnExactDiaryTextCard

/-- THE TIED CARD OF 'laws.FnExactScaresText'. -/
def fnExactScaresTextCard : Claim7 := { stood := { row := fnExactScaresTextRow, standIns := [], harness := (true, "28d73f93278a5ecd93796637fe73a0a75e6fa6f89e79f304ab80a3742e4736d2"), looks := false }, kinds := [], alts := [], laidByText := true, laidKinds := [.data, .data, .data], laidTests := true, laidLooks := .later }
def FnExactScaresTextCardSaid : Prop := Claim7.holds Tryd.pinned (.plain (OpenSpec.ofChange fnExactScaresTextSpec)) fnExactScaresTextCard

/-- THE TIED CARD OF 'laws.FnExactNetsText'. -/
def fnExactNetsTextCard : Claim7 := { stood := { row := fnExactNetsTextRow, standIns := [], harness := (true, "28d73f93278a5ecd93796637fe73a0a75e6fa6f89e79f304ab80a3742e4736d2"), looks := false }, kinds := [], alts := [], laidByText := true, laidKinds := [.data, .data, .data], laidTests := true, laidLooks := .later }
def FnExactNetsTextCardSaid : Prop := Claim7.holds Tryd.pinned (.plain (OpenSpec.ofChange fnExactNetsTextSpec)) fnExactNetsTextCard

/-- THE TIED CARD OF 'laws.FnExactFlocksText'. -/
def fnExactFlocksTextCard : Claim7 := { stood := { row := fnExactFlocksTextRow, standIns := [], harness := (true, "28d73f93278a5ecd93796637fe73a0a75e6fa6f89e79f304ab80a3742e4736d2"), looks := false }, kinds := [], alts := [], laidByText := true, laidKinds := [.data, .data, .data], laidTests := true, laidLooks := .later }
def FnExactFlocksTextCardSaid : Prop := Claim7.holds Tryd.pinned (.plain (OpenSpec.ofChange fnExactFlocksTextSpec)) fnExactFlocksTextCard

/-- THE SECOND FORM's CARD OF 'laws.FnExactDiaryText'. -/
def fnExactDiaryTextUptoCard : Claim7 := { stood := { row := fnExactDiaryTextUptoRow, standIns := [], harness := (true, "28d73f93278a5ecd93796637fe73a0a75e6fa6f89e79f304ab80a3742e4736d2"), looks := false }, kinds := [], alts := [], laidByText := true, laidKinds := [.data, .data, .data], laidTests := true, laidLooks := .later }
def FnExactDiaryTextUptoCardSaid : Prop := Claim7.holds Tryd.pinned (.plain (OpenSpec.upto fnExactDiaryTextSpec)) fnExactDiaryTextUptoCard

/-- THE SECOND FORM's CARD OF 'laws.FnExactScaresText'. -/
def fnExactScaresTextUptoCard : Claim7 := { stood := { row := fnExactScaresTextUptoRow, standIns := [], harness := (true, "28d73f93278a5ecd93796637fe73a0a75e6fa6f89e79f304ab80a3742e4736d2"), looks := false }, kinds := [], alts := [], laidByText := true, laidKinds := [.data, .data, .data], laidTests := true, laidLooks := .later }
def FnExactScaresTextUptoCardSaid : Prop := Claim7.holds Tryd.pinned (.plain (OpenSpec.upto fnExactScaresTextSpec)) fnExactScaresTextUptoCard

/-- THE SECOND FORM's CARD OF 'laws.FnExactNetsText'. -/
def fnExactNetsTextUptoCard : Claim7 := { stood := { row := fnExactNetsTextUptoRow, standIns := [], harness := (true, "28d73f93278a5ecd93796637fe73a0a75e6fa6f89e79f304ab80a3742e4736d2"), looks := false }, kinds := [], alts := [], laidByText := true, laidKinds := [.data, .data, .data], laidTests := true, laidLooks := .later }
def FnExactNetsTextUptoCardSaid : Prop := Claim7.holds Tryd.pinned (.plain (OpenSpec.upto fnExactNetsTextSpec)) fnExactNetsTextUptoCard

/-- THE SECOND FORM's CARD OF 'laws.FnExactFlocksText'. -/
def fnExactFlocksTextUptoCard : Claim7 := { stood := { row := fnExactFlocksTextUptoRow, standIns := [], harness := (true, "28d73f93278a5ecd93796637fe73a0a75e6fa6f89e79f304ab80a3742e4736d2"), looks := false }, kinds := [], alts := [], laidByText := true, laidKinds := [.data, .data, .data], laidTests := true, laidLooks := .later }
def FnExactFlocksTextUptoCardSaid : Prop := Claim7.holds Tryd.pinned (.plain (OpenSpec.upto fnExactFlocksTextSpec)) fnExactFlocksTextUptoCard
end Rows
end Go.Proofs.YtcifgakahpnjiaaDoor
