/-
  DERIVED. GIVEN WITH THE SEED: THE CARDS: each row of YtjbkcboklccmeaaGreatDoorRows.lean that lists a variable, with what it lists TIED to the program's text (the seventh form; the later family's looks); each row that meets fmt, with fmt's text TOLD by the authors' own Lean function (tested against real Go, not proved from fmt's source: count such statements apart). THE CARD IS WHAT COUNTS. Prove the row's statement (the work); the ties are given (YtjbkcboklccmeaaGreatDoorTie.lean); close each card by the builder's one call (the guide's Derived/Test/ToyasCard.lean, 'card_holds'). Laid BY PROGRAM, IN A SANDBOX (cutbox-door.mjs). By AI agents, Wed Nov 11 2026. No macro, syntax, notation, axiom, sorry.
-/
import Derived.Test.YtjbkcboklccmeaaGreatDoorRows
import GoSem.ClaimSeven
namespace Go.Proofs.YtjbkcboklccmeaaGreatDoor
namespace Rows

/-- THE TIED CARD OF 'scribelaw14.ResolveTold'. -/
def resolveToldCard : Claim7 := { stood := { row := resolveToldRow, standIns := [], harness := (true, "e79463e7139dcabb4d8a9ec0b036fc7a0a64543e058227ac85569760c79d2a9f"), looks := false }, kinds := [], alts := [], laidByText := true, laidKinds := [.widerDeep, .widerDeep, .widerDeep, .widerDeep], laidTests := true, laidLooks := .later }
def ResolveToldCardSaid : Prop := Claim7.holds Tryz.pinned (.plain (OpenSpec.ofChange resolveToldSpec)) resolveToldCard

/-- THE TIED CARD OF 'scribelaw14.ResolveTwice'. -/
def resolveTwiceCard : Claim7 := { stood := { row := resolveTwiceRow, standIns := [], harness := (true, "e79463e7139dcabb4d8a9ec0b036fc7a0a64543e058227ac85569760c79d2a9f"), looks := false }, kinds := [], alts := [], laidByText := true, laidKinds := [.widerDeep, .widerDeep, .widerDeep, .widerDeep], laidTests := true, laidLooks := .later }
def ResolveTwiceCardSaid : Prop := Claim7.holds Tryz.pinned (.plain (OpenSpec.ofChange resolveTwiceSpec)) resolveTwiceCard

/-- THE TIED CARD OF 'scribelaw14.ResolveStray'. -/
def resolveStrayCard : Claim7 := { stood := { row := resolveStrayRow, standIns := [], harness := (true, "e79463e7139dcabb4d8a9ec0b036fc7a0a64543e058227ac85569760c79d2a9f"), looks := false }, kinds := [], alts := [], laidByText := true, laidKinds := [.widerDeep, .widerDeep, .widerDeep, .widerDeep], laidTests := true, laidLooks := .later }
def ResolveStrayCardSaid : Prop := Claim7.holds Tryz.pinned (.plain (OpenSpec.ofChange resolveStraySpec)) resolveStrayCard

/-- THE TIED CARD OF 'scribelaw15.CodeBent'. -/
def codeBentCard : Claim7 := { stood := { row := codeBentRow, standIns := [], harness := (true, "e79463e7139dcabb4d8a9ec0b036fc7a0a64543e058227ac85569760c79d2a9f"), looks := false }, kinds := [], alts := [], laidByText := true, laidKinds := [.widerDeep, .widerDeep, .widerDeep, .widerDeep, .widerDeep, .widerDeep, .widerDeep, .widerDeep, .widerDeep], laidTests := true, laidLooks := .later }
def CodeBentCardSaid : Prop := Claim7.holds Tryz.pinned (.plain (OpenSpec.ofChange codeBentSpec)) codeBentCard

/-- THE TIED CARD OF 'scribelaw15.CodeTwice'. -/
def codeTwiceCard : Claim7 := { stood := { row := codeTwiceRow, standIns := [], harness := (true, "e79463e7139dcabb4d8a9ec0b036fc7a0a64543e058227ac85569760c79d2a9f"), looks := false }, kinds := [], alts := [], laidByText := true, laidKinds := [.widerDeep, .widerDeep, .widerDeep, .widerDeep, .widerDeep, .widerDeep, .widerDeep, .widerDeep, .widerDeep], laidTests := true, laidLooks := .later }
def CodeTwiceCardSaid : Prop := Claim7.holds Tryz.pinned (.plain (OpenSpec.ofChange codeTwiceSpec)) codeTwiceCard

/-- THE TIED CARD OF 'scribelaw15.CodeNames'. -/
def codeNamesCard : Claim7 := { stood := { row := codeNamesRow, standIns := [], harness := (true, "e79463e7139dcabb4d8a9ec0b036fc7a0a64543e058227ac85569760c79d2a9f"), looks := false }, kinds := [], alts := [], laidByText := true, laidKinds := [.widerDeep, .widerDeep, .widerDeep, .widerDeep, .widerDeep, .widerDeep, .widerDeep, .widerDeep, .widerDeep], laidTests := true, laidLooks := .later }
def CodeNamesCardSaid : Prop := Claim7.holds Tryz.pinned (.plain (OpenSpec.ofChange codeNamesSpec)) codeNamesCard

/-- THE TIED CARD OF 'scribelaw15.CodeChecks'. -/
def codeChecksCard : Claim7 := { stood := { row := codeChecksRow, standIns := [], harness := (true, "e79463e7139dcabb4d8a9ec0b036fc7a0a64543e058227ac85569760c79d2a9f"), looks := false }, kinds := [], alts := [], laidByText := true, laidKinds := [.widerDeep, .widerDeep, .widerDeep, .widerDeep, .widerDeep, .widerDeep, .widerDeep, .widerDeep, .widerDeep], laidTests := true, laidLooks := .later }
def CodeChecksCardSaid : Prop := Claim7.holds Tryz.pinned (.plain (OpenSpec.ofChange codeChecksSpec)) codeChecksCard

/-- THE SECOND FORM's CARD OF 'scribelaw14.ResolveTold'. -/
def resolveToldUptoCard : Claim7 := { stood := { row := resolveToldUptoRow, standIns := [], harness := (true, "e79463e7139dcabb4d8a9ec0b036fc7a0a64543e058227ac85569760c79d2a9f"), looks := false }, kinds := [], alts := [], laidByText := true, laidKinds := [.widerDeep, .widerDeep, .widerDeep, .widerDeep], laidTests := true, laidLooks := .later }
def ResolveToldUptoCardSaid : Prop := Claim7.holds Tryz.pinned (.plain (OpenSpec.upto resolveToldSpec)) resolveToldUptoCard

/-- THE SECOND FORM's CARD OF 'scribelaw14.ResolveTwice'. -/
def resolveTwiceUptoCard : Claim7 := { stood := { row := resolveTwiceUptoRow, standIns := [], harness := (true, "e79463e7139dcabb4d8a9ec0b036fc7a0a64543e058227ac85569760c79d2a9f"), looks := false }, kinds := [], alts := [], laidByText := true, laidKinds := [.widerDeep, .widerDeep, .widerDeep, .widerDeep], laidTests := true, laidLooks := .later }
def ResolveTwiceUptoCardSaid : Prop := Claim7.holds Tryz.pinned (.plain (OpenSpec.upto resolveTwiceSpec)) resolveTwiceUptoCard

/-- THE SECOND FORM's CARD OF 'scribelaw14.ResolveStray'. -/
def resolveStrayUptoCard : Claim7 := { stood := { row := resolveStrayUptoRow, standIns := [], harness := (true, "e79463e7139dcabb4d8a9ec0b036fc7a0a64543e058227ac85569760c79d2a9f"), looks := false }, kinds := [], alts := [], laidByText := true, laidKinds := [.widerDeep, .widerDeep, .widerDeep, .widerDeep], laidTests := true, laidLooks := .later }
def ResolveStrayUptoCardSaid : Prop := Claim7.holds Tryz.pinned (.plain (OpenSpec.upto resolveStraySpec)) resolveStrayUptoCard

/-- THE SECOND FORM's CARD OF 'scribelaw15.CodeBent'. -/
def codeBentUptoCard : Claim7 := { stood := { row := codeBentUptoRow, standIns := [], harness := (true, "e79463e7139dcabb4d8a9ec0b036fc7a0a64543e058227ac85569760c79d2a9f"), looks := false }, kinds := [], alts := [], laidByText := true, laidKinds := [.widerDeep, .widerDeep, .widerDeep, .widerDeep, .widerDeep, .widerDeep, .widerDeep, .widerDeep, .widerDeep], laidTests := true, laidLooks := .later }
def CodeBentUptoCardSaid : Prop := Claim7.holds Tryz.pinned (.plain (OpenSpec.upto codeBentSpec)) codeBentUptoCard

/-- THE SECOND FORM's CARD OF 'scribelaw15.CodeTwice'. -/
def codeTwiceUptoCard : Claim7 := { stood := { row := codeTwiceUptoRow, standIns := [], harness := (true, "e79463e7139dcabb4d8a9ec0b036fc7a0a64543e058227ac85569760c79d2a9f"), looks := false }, kinds := [], alts := [], laidByText := true, laidKinds := [.widerDeep, .widerDeep, .widerDeep, .widerDeep, .widerDeep, .widerDeep, .widerDeep, .widerDeep, .widerDeep], laidTests := true, laidLooks := .later }
def CodeTwiceUptoCardSaid : Prop := Claim7.holds Tryz.pinned (.plain (OpenSpec.upto codeTwiceSpec)) codeTwiceUptoCard

/-- THE SECOND FORM's CARD OF 'scribelaw15.CodeNames'. -/
def codeNamesUptoCard : Claim7 := { stood := { row := codeNamesUptoRow, standIns := [], harness := (true, "e79463e7139dcabb4d8a9ec0b036fc7a0a64543e058227ac85569760c79d2a9f"), looks := false }, kinds := [], alts := [], laidByText := true, laidKinds := [.widerDeep, .widerDeep, .widerDeep, .widerDeep, .widerDeep, .widerDeep, .widerDeep, .widerDeep, .widerDeep], laidTests := true, laidLooks := .later }
def CodeNamesUptoCardSaid : Prop := Claim7.holds Tryz.pinned (.plain (OpenSpec.upto codeNamesSpec)) codeNamesUptoCard

/-- THE SECOND FORM's CARD OF 'scribelaw15.CodeChecks'. -/
def codeChecksUptoCard : Claim7 := { stood := { row := codeChecksUptoRow, standIns := [], harness := (true, "e79463e7139dcabb4d8a9ec0b036fc7a0a64543e058227ac85569760c79d2a9f"), looks := false }, kinds := [], alts := [], laidByText := true, laidKinds := [.widerDeep, .widerDeep, .widerDeep, .widerDeep, .widerDeep, .widerDeep, .widerDeep, .widerDeep, .widerDeep], laidTests := true, laidLooks := .later }
def CodeChecksUptoCardSaid : Prop := Claim7.holds Tryz.pinned (.plain (OpenSpec.upto codeChecksSpec)) codeChecksUptoCard
end Rows
end Go.Proofs.YtjbkcboklccmeaaGreatDoor
