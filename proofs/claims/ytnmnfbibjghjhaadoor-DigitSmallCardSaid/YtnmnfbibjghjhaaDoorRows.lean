/-
  NARROWER THAN 'FOR EVERY INPUT', by the rows' own cells (each row's printed sentence says how): DigitFills: laid · DigitWrong: laid · DigitMisses: laid · DigitOne: laid · DigitTells: laid · DigitSmall: laid · DigitFinds: laid · DigitWeights: laid · DigitLuhn: laid.
  DERIVED. THE GIVEN ROWS OF THIS SEAT. 9 by the template 'for every input the law returns true; each argument reads behind the call as it read before'; 0 by the template 'total and deterministic' (their statements: YtnmnfbibjghjhaaDoorTotals.lean).
  GIVEN WITH THE SEED: the statements are not yours to turn. If you find one false, say at which input.
  Laid BY PROGRAM, IN A SANDBOX (cutbox-rows.mjs): the forced cells as the released guide's own fill.sh prints them over the translation 09212954d2bab5a4… (all of the seat's roots in one cut). By AI agents, Wed Nov 11 2026. No macro, syntax, notation, axiom, sorry.
-/
import Derived.Test.YtnmnfbibjghjhaaDoorChecked
import GoSem.Claim
import GoSem.ClaimJoined
import GoSem.ClaimMapViews
import Derived.JoinedTies
import Derived.KernelRfl
namespace Go.Proofs.YtnmnfbibjghjhaaDoor
/- THE CELL 'sum', in the pinned program and in every row, IS THE sha256 OF THE DUMP (.gsa) THAT YtnmnfbibjghjhaaDoorProg.lean LOADS. Nothing in Lean hashes anything: it is a label: what it is worth is what the hold of that sum in a sandbox is worth. -/
noncomputable def Tryd.pinned : Pinned := { name := "ytnmnfbibjghjhaadoor", sum := "09212954d2bab5a445a987bb50be2d9510d7fde5ba806302be01676e86488634", checked := Tryd.checked }
namespace Rows
def none {H : Type} : Left H := { results := [], args := [] }

/- WHAT THE LISTED PACKAGE-LEVEL VARIABLES READ AS WHEN THE CALL BEGINS. Each datum BY PROGRAM (the guide's laid-datum.mjs) off the statement by which the dump's own 'gosem.cut.vars' lays the variable. In a bare row this is a premise. The card (YtnmnfbibjghjhaaDoorCards.lean) ties it to the program's text. -/
def laid_letterbag_digit_products {H : Type} : DataW H := .agg [.agg [.lit (.int .i64 0), .lit (.int .i64 1), .lit (.int .i64 2), .lit (.int .i64 3), .lit (.int .i64 4), .lit (.int .i64 5), .lit (.int .i64 6), .lit (.int .i64 7), .lit (.int .i64 8), .lit (.int .i64 9)], .agg [.lit (.int .i64 1), .lit (.int .i64 2), .lit (.int .i64 3), .lit (.int .i64 4), .lit (.int .i64 0), .lit (.int .i64 6), .lit (.int .i64 7), .lit (.int .i64 8), .lit (.int .i64 9), .lit (.int .i64 5)], .agg [.lit (.int .i64 2), .lit (.int .i64 3), .lit (.int .i64 4), .lit (.int .i64 0), .lit (.int .i64 1), .lit (.int .i64 7), .lit (.int .i64 8), .lit (.int .i64 9), .lit (.int .i64 5), .lit (.int .i64 6)], .agg [.lit (.int .i64 3), .lit (.int .i64 4), .lit (.int .i64 0), .lit (.int .i64 1), .lit (.int .i64 2), .lit (.int .i64 8), .lit (.int .i64 9), .lit (.int .i64 5), .lit (.int .i64 6), .lit (.int .i64 7)], .agg [.lit (.int .i64 4), .lit (.int .i64 0), .lit (.int .i64 1), .lit (.int .i64 2), .lit (.int .i64 3), .lit (.int .i64 9), .lit (.int .i64 5), .lit (.int .i64 6), .lit (.int .i64 7), .lit (.int .i64 8)], .agg [.lit (.int .i64 5), .lit (.int .i64 9), .lit (.int .i64 8), .lit (.int .i64 7), .lit (.int .i64 6), .lit (.int .i64 0), .lit (.int .i64 4), .lit (.int .i64 3), .lit (.int .i64 2), .lit (.int .i64 1)], .agg [.lit (.int .i64 6), .lit (.int .i64 5), .lit (.int .i64 9), .lit (.int .i64 8), .lit (.int .i64 7), .lit (.int .i64 1), .lit (.int .i64 0), .lit (.int .i64 4), .lit (.int .i64 3), .lit (.int .i64 2)], .agg [.lit (.int .i64 7), .lit (.int .i64 6), .lit (.int .i64 5), .lit (.int .i64 9), .lit (.int .i64 8), .lit (.int .i64 2), .lit (.int .i64 1), .lit (.int .i64 0), .lit (.int .i64 4), .lit (.int .i64 3)], .agg [.lit (.int .i64 8), .lit (.int .i64 7), .lit (.int .i64 6), .lit (.int .i64 5), .lit (.int .i64 9), .lit (.int .i64 3), .lit (.int .i64 2), .lit (.int .i64 1), .lit (.int .i64 0), .lit (.int .i64 4)], .agg [.lit (.int .i64 9), .lit (.int .i64 8), .lit (.int .i64 7), .lit (.int .i64 6), .lit (.int .i64 5), .lit (.int .i64 4), .lit (.int .i64 3), .lit (.int .i64 2), .lit (.int .i64 1), .lit (.int .i64 0)]]
def laid_letterbag_digit_turned {H : Type} : DataW H := .agg [.lit (.int .i64 1), .lit (.int .i64 5), .lit (.int .i64 7), .lit (.int .i64 6), .lit (.int .i64 2), .lit (.int .i64 8), .lit (.int .i64 3), .lit (.int .i64 0), .lit (.int .i64 9), .lit (.int .i64 4)]

/-- 'letterbaglaw16.DigitFills': WHATEVER THE INPUT: true; the input reads as it did. -/
def digitFillsSpec : ChangeSpec := { name := "digitFills", fn := fun _ => fun
  | [d1, d2, d3] => { results := [.lit (.bool true)], args := [d1, d2, d3] }
  | _ => none }
def digitFillsRow : OpenClaim := { program := "ytnmnfbibjghjhaadoor", sum := "09212954d2bab5a445a987bb50be2d9510d7fde5ba806302be01676e86488634", func := "letterbag/letterbaglaw16.DigitFills", spec := "digitFills", unfollowed := true, recurses := true, named := ["letterbag/digit.products", "letterbag/digit.turned"], apart := false, laid := [("letterbag/digit.products", laid_letterbag_digit_products), ("letterbag/digit.turned", laid_letterbag_digit_turned)] }
def DigitFillsSaid : Prop := digitFillsRow.holds Tryd.pinned (OpenSpec.ofChange digitFillsSpec)

/-- ITS FALSE NEIGHBOUR: 'it returns false'. Refute it at one input. -/
def digitFillsWrong : ChangeSpec := { name := "digitFills", fn := fun _ => fun
  | [d1, d2, d3] => { results := [.lit (.bool false)], args := [d1, d2, d3] }
  | _ => none }
def DigitFillsWrongFalsely : Prop := digitFillsRow.holds Tryd.pinned (OpenSpec.ofChange digitFillsWrong)

/-- 'letterbaglaw16.DigitWrong': WHATEVER THE INPUT: true; the input reads as it did. -/
def digitWrongSpec : ChangeSpec := { name := "digitWrong", fn := fun _ => fun
  | [d1, d2, d3, d4] => { results := [.lit (.bool true)], args := [d1, d2, d3, d4] }
  | _ => none }
def digitWrongRow : OpenClaim := { program := "ytnmnfbibjghjhaadoor", sum := "09212954d2bab5a445a987bb50be2d9510d7fde5ba806302be01676e86488634", func := "letterbag/letterbaglaw16.DigitWrong", spec := "digitWrong", unfollowed := true, recurses := true, named := ["letterbag/digit.products", "letterbag/digit.turned"], apart := false, laid := [("letterbag/digit.products", laid_letterbag_digit_products), ("letterbag/digit.turned", laid_letterbag_digit_turned)] }
def DigitWrongSaid : Prop := digitWrongRow.holds Tryd.pinned (OpenSpec.ofChange digitWrongSpec)

/-- ITS FALSE NEIGHBOUR: 'it returns false'. Refute it at one input. -/
def digitWrongWrong : ChangeSpec := { name := "digitWrong", fn := fun _ => fun
  | [d1, d2, d3, d4] => { results := [.lit (.bool false)], args := [d1, d2, d3, d4] }
  | _ => none }
def DigitWrongWrongFalsely : Prop := digitWrongRow.holds Tryd.pinned (OpenSpec.ofChange digitWrongWrong)

/-- 'letterbaglaw16.DigitMisses': WHATEVER THE INPUT: true; the input reads as it did. -/
def digitMissesSpec : ChangeSpec := { name := "digitMisses", fn := fun _ => fun
  | [d1, d2] => { results := [.lit (.bool true)], args := [d1, d2] }
  | _ => none }
def digitMissesRow : OpenClaim := { program := "ytnmnfbibjghjhaadoor", sum := "09212954d2bab5a445a987bb50be2d9510d7fde5ba806302be01676e86488634", func := "letterbag/letterbaglaw16.DigitMisses", spec := "digitMisses", unfollowed := true, recurses := true, named := ["letterbag/digit.products", "letterbag/digit.turned"], apart := false, laid := [("letterbag/digit.products", laid_letterbag_digit_products), ("letterbag/digit.turned", laid_letterbag_digit_turned)] }
def DigitMissesSaid : Prop := digitMissesRow.holds Tryd.pinned (OpenSpec.ofChange digitMissesSpec)

/-- ITS FALSE NEIGHBOUR: 'it returns false'. Refute it at one input. -/
def digitMissesWrong : ChangeSpec := { name := "digitMisses", fn := fun _ => fun
  | [d1, d2] => { results := [.lit (.bool false)], args := [d1, d2] }
  | _ => none }
def DigitMissesWrongFalsely : Prop := digitMissesRow.holds Tryd.pinned (OpenSpec.ofChange digitMissesWrong)

/-- 'letterbaglaw16.DigitOne': WHATEVER THE INPUT: true; the input reads as it did. -/
def digitOneSpec : ChangeSpec := { name := "digitOne", fn := fun _ => fun
  | [d1, d2, d3] => { results := [.lit (.bool true)], args := [d1, d2, d3] }
  | _ => none }
def digitOneRow : OpenClaim := { program := "ytnmnfbibjghjhaadoor", sum := "09212954d2bab5a445a987bb50be2d9510d7fde5ba806302be01676e86488634", func := "letterbag/letterbaglaw16.DigitOne", spec := "digitOne", unfollowed := true, recurses := true, named := ["letterbag/digit.products", "letterbag/digit.turned"], apart := false, laid := [("letterbag/digit.products", laid_letterbag_digit_products), ("letterbag/digit.turned", laid_letterbag_digit_turned)] }
def DigitOneSaid : Prop := digitOneRow.holds Tryd.pinned (OpenSpec.ofChange digitOneSpec)

/-- ITS FALSE NEIGHBOUR: 'it returns false'. Refute it at one input. -/
def digitOneWrong : ChangeSpec := { name := "digitOne", fn := fun _ => fun
  | [d1, d2, d3] => { results := [.lit (.bool false)], args := [d1, d2, d3] }
  | _ => none }
def DigitOneWrongFalsely : Prop := digitOneRow.holds Tryd.pinned (OpenSpec.ofChange digitOneWrong)

/-- 'letterbaglaw16.DigitTells': WHATEVER THE INPUT: true; the input reads as it did. -/
def digitTellsSpec : ChangeSpec := { name := "digitTells", fn := fun _ => fun
  | [d1, d2] => { results := [.lit (.bool true)], args := [d1, d2] }
  | _ => none }
def digitTellsRow : OpenClaim := { program := "ytnmnfbibjghjhaadoor", sum := "09212954d2bab5a445a987bb50be2d9510d7fde5ba806302be01676e86488634", func := "letterbag/letterbaglaw16.DigitTells", spec := "digitTells", unfollowed := true, recurses := true, named := ["letterbag/digit.products", "letterbag/digit.turned"], apart := false, laid := [("letterbag/digit.products", laid_letterbag_digit_products), ("letterbag/digit.turned", laid_letterbag_digit_turned)] }
def DigitTellsSaid : Prop := digitTellsRow.holds Tryd.pinned (OpenSpec.ofChange digitTellsSpec)

/-- ITS FALSE NEIGHBOUR: 'it returns false'. Refute it at one input. -/
def digitTellsWrong : ChangeSpec := { name := "digitTells", fn := fun _ => fun
  | [d1, d2] => { results := [.lit (.bool false)], args := [d1, d2] }
  | _ => none }
def DigitTellsWrongFalsely : Prop := digitTellsRow.holds Tryd.pinned (OpenSpec.ofChange digitTellsWrong)

/-- 'letterbaglaw16.DigitSmall': WHATEVER THE INPUT: true; the input reads as it did. -/
def digitSmallSpec : ChangeSpec := { name := "digitSmall", fn := fun _ => fun
  | [] => { results := [.lit (.bool true)], args := [] }
  | _ => none }
def digitSmallRow : OpenClaim := { program := "ytnmnfbibjghjhaadoor", sum := "09212954d2bab5a445a987bb50be2d9510d7fde5ba806302be01676e86488634", func := "letterbag/letterbaglaw16.DigitSmall", spec := "digitSmall", unfollowed := true, recurses := true, named := ["letterbag/digit.products", "letterbag/digit.turned"], apart := false, laid := [("letterbag/digit.products", laid_letterbag_digit_products), ("letterbag/digit.turned", laid_letterbag_digit_turned)] }
def DigitSmallSaid : Prop := digitSmallRow.holds Tryd.pinned (OpenSpec.ofChange digitSmallSpec)

/-- ITS FALSE NEIGHBOUR: 'it returns false'. Refute it at one input. -/
def digitSmallWrong : ChangeSpec := { name := "digitSmall", fn := fun _ => fun
  | [] => { results := [.lit (.bool false)], args := [] }
  | _ => none }
def DigitSmallWrongFalsely : Prop := digitSmallRow.holds Tryd.pinned (OpenSpec.ofChange digitSmallWrong)

/-- 'letterbaglaw16.DigitFinds': WHATEVER THE INPUT: true; the input reads as it did. -/
def digitFindsSpec : ChangeSpec := { name := "digitFinds", fn := fun _ => fun
  | [d] => { results := [.lit (.bool true)], args := [d] }
  | _ => none }
def digitFindsRow : OpenClaim := { program := "ytnmnfbibjghjhaadoor", sum := "09212954d2bab5a445a987bb50be2d9510d7fde5ba806302be01676e86488634", func := "letterbag/letterbaglaw16.DigitFinds", spec := "digitFinds", unfollowed := true, recurses := true, named := ["letterbag/digit.products", "letterbag/digit.turned"], apart := false, laid := [("letterbag/digit.products", laid_letterbag_digit_products), ("letterbag/digit.turned", laid_letterbag_digit_turned)] }
def DigitFindsSaid : Prop := digitFindsRow.holds Tryd.pinned (OpenSpec.ofChange digitFindsSpec)

/-- ITS FALSE NEIGHBOUR: 'it returns false'. Refute it at one input. -/
def digitFindsWrong : ChangeSpec := { name := "digitFinds", fn := fun _ => fun
  | [d] => { results := [.lit (.bool false)], args := [d] }
  | _ => none }
def DigitFindsWrongFalsely : Prop := digitFindsRow.holds Tryd.pinned (OpenSpec.ofChange digitFindsWrong)

/-- 'letterbaglaw16.DigitWeights': WHATEVER THE INPUT: true; the input reads as it did. -/
def digitWeightsSpec : ChangeSpec := { name := "digitWeights", fn := fun _ => fun
  | [d1, d2, d3] => { results := [.lit (.bool true)], args := [d1, d2, d3] }
  | _ => none }
def digitWeightsRow : OpenClaim := { program := "ytnmnfbibjghjhaadoor", sum := "09212954d2bab5a445a987bb50be2d9510d7fde5ba806302be01676e86488634", func := "letterbag/letterbaglaw16.DigitWeights", spec := "digitWeights", unfollowed := true, recurses := true, named := ["letterbag/digit.products", "letterbag/digit.turned"], apart := false, laid := [("letterbag/digit.products", laid_letterbag_digit_products), ("letterbag/digit.turned", laid_letterbag_digit_turned)] }
def DigitWeightsSaid : Prop := digitWeightsRow.holds Tryd.pinned (OpenSpec.ofChange digitWeightsSpec)

/-- ITS FALSE NEIGHBOUR: 'it returns false'. Refute it at one input. -/
def digitWeightsWrong : ChangeSpec := { name := "digitWeights", fn := fun _ => fun
  | [d1, d2, d3] => { results := [.lit (.bool false)], args := [d1, d2, d3] }
  | _ => none }
def DigitWeightsWrongFalsely : Prop := digitWeightsRow.holds Tryd.pinned (OpenSpec.ofChange digitWeightsWrong)

/-- 'letterbaglaw16.DigitLuhn': WHATEVER THE INPUT: true; the input reads as it did. -/
def digitLuhnSpec : ChangeSpec := { name := "digitLuhn", fn := fun _ => fun
  | [d] => { results := [.lit (.bool true)], args := [d] }
  | _ => none }
def digitLuhnRow : OpenClaim := { program := "ytnmnfbibjghjhaadoor", sum := "09212954d2bab5a445a987bb50be2d9510d7fde5ba806302be01676e86488634", func := "letterbag/letterbaglaw16.DigitLuhn", spec := "digitLuhn", unfollowed := true, recurses := true, named := ["letterbag/digit.products", "letterbag/digit.turned"], apart := false, laid := [("letterbag/digit.products", laid_letterbag_digit_products), ("letterbag/digit.turned", laid_letterbag_digit_turned)] }
def DigitLuhnSaid : Prop := digitLuhnRow.holds Tryd.pinned (OpenSpec.ofChange digitLuhnSpec)

/-- ITS FALSE NEIGHBOUR: 'it returns false'. Refute it at one input. -/
def digitLuhnWrong : ChangeSpec := { name := "digitLuhn", fn := fun _ => fun
  | [d] => { results := [.lit (.bool false)], args := [d] }
  | _ => none }
def DigitLuhnWrongFalsely : Prop := digitLuhnRow.holds Tryd.pinned (OpenSpec.ofChange digitLuhnWrong)

/- THE SECOND FORM. 'bulk': how many values and letters a reading holds, each counted each time it is reached (what is shared counts as often as it is met; a slice's spare places count too). A statement '..UptoSaid' is the law's where the arguments, and the package variables that the reading takes, are together of bulk at most 1048576: NARROWER than '..Said'. Prove '..Said' where nothing that the law and all that it calls make is longer than what came in: it says more and counts as full. Else prove '..UptoSaid'. A law counts once. -/
mutual
def uptoBulk {H : Type} : DataW H → Nat
  | .lit (.string bytes) => bytes.length + 1
  | .lit _ => 1
  | .nil => 1
  | .ptr d => uptoBulk d + 1
  | .slice elems spare => uptoBulkAll elems + uptoBulkAll spare + 1
  | .agg parts => uptoBulkAll parts + 1
  | .iface _ d => uptoBulk d + 1
  | .map entries => uptoBulkEntries entries + 1
  | .held _ => 1
def uptoBulkAll {H : Type} : List (DataW H) → Nat
  | [] => 0
  | d :: r => uptoBulk d + uptoBulkAll r
def uptoBulkEntries {H : Type} : List (Lit × DataW H) → Nat
  | [] => 0
  | x :: r => uptoBulkEntry x + uptoBulkEntries r
def uptoBulkEntry {H : Type} : Lit × DataW H → Nat
  | (.string bytes, d) => bytes.length + uptoBulk d + 1
  | (_, d) => uptoBulk d + 1
 end
def uptoSmall : (H : Type) → List (DataW H) → Bool := fun _ ds => decide (uptoBulkAll ds ≤ 1048576)
def OpenSpec.upto (s : _root_.Go.ChangeSpec) : _root_.Go.OpenSpec := { _root_.Go.OpenSpec.ofChange s with cond := some uptoSmall }

/-- 'letterbaglaw16.DigitFills', WHERE WHAT IT READS IS OF BULK AT MOST 1048576: true; the input reads as it did. -/
def digitFillsUptoRow : OpenClaim := { program := "ytnmnfbibjghjhaadoor", sum := "09212954d2bab5a445a987bb50be2d9510d7fde5ba806302be01676e86488634", func := "letterbag/letterbaglaw16.DigitFills", spec := "digitFills", unfollowed := true, recurses := true, named := ["letterbag/digit.products", "letterbag/digit.turned"], apart := false, laid := [("letterbag/digit.products", laid_letterbag_digit_products), ("letterbag/digit.turned", laid_letterbag_digit_turned)], narrowed := true }
def DigitFillsUptoSaid : Prop := digitFillsUptoRow.holds Tryd.pinned (OpenSpec.upto digitFillsSpec)

/-- 'letterbaglaw16.DigitWrong', WHERE WHAT IT READS IS OF BULK AT MOST 1048576: true; the input reads as it did. -/
def digitWrongUptoRow : OpenClaim := { program := "ytnmnfbibjghjhaadoor", sum := "09212954d2bab5a445a987bb50be2d9510d7fde5ba806302be01676e86488634", func := "letterbag/letterbaglaw16.DigitWrong", spec := "digitWrong", unfollowed := true, recurses := true, named := ["letterbag/digit.products", "letterbag/digit.turned"], apart := false, laid := [("letterbag/digit.products", laid_letterbag_digit_products), ("letterbag/digit.turned", laid_letterbag_digit_turned)], narrowed := true }
def DigitWrongUptoSaid : Prop := digitWrongUptoRow.holds Tryd.pinned (OpenSpec.upto digitWrongSpec)

/-- 'letterbaglaw16.DigitMisses', WHERE WHAT IT READS IS OF BULK AT MOST 1048576: true; the input reads as it did. -/
def digitMissesUptoRow : OpenClaim := { program := "ytnmnfbibjghjhaadoor", sum := "09212954d2bab5a445a987bb50be2d9510d7fde5ba806302be01676e86488634", func := "letterbag/letterbaglaw16.DigitMisses", spec := "digitMisses", unfollowed := true, recurses := true, named := ["letterbag/digit.products", "letterbag/digit.turned"], apart := false, laid := [("letterbag/digit.products", laid_letterbag_digit_products), ("letterbag/digit.turned", laid_letterbag_digit_turned)], narrowed := true }
def DigitMissesUptoSaid : Prop := digitMissesUptoRow.holds Tryd.pinned (OpenSpec.upto digitMissesSpec)

/-- 'letterbaglaw16.DigitOne', WHERE WHAT IT READS IS OF BULK AT MOST 1048576: true; the input reads as it did. -/
def digitOneUptoRow : OpenClaim := { program := "ytnmnfbibjghjhaadoor", sum := "09212954d2bab5a445a987bb50be2d9510d7fde5ba806302be01676e86488634", func := "letterbag/letterbaglaw16.DigitOne", spec := "digitOne", unfollowed := true, recurses := true, named := ["letterbag/digit.products", "letterbag/digit.turned"], apart := false, laid := [("letterbag/digit.products", laid_letterbag_digit_products), ("letterbag/digit.turned", laid_letterbag_digit_turned)], narrowed := true }
def DigitOneUptoSaid : Prop := digitOneUptoRow.holds Tryd.pinned (OpenSpec.upto digitOneSpec)

/-- 'letterbaglaw16.DigitTells', WHERE WHAT IT READS IS OF BULK AT MOST 1048576: true; the input reads as it did. -/
def digitTellsUptoRow : OpenClaim := { program := "ytnmnfbibjghjhaadoor", sum := "09212954d2bab5a445a987bb50be2d9510d7fde5ba806302be01676e86488634", func := "letterbag/letterbaglaw16.DigitTells", spec := "digitTells", unfollowed := true, recurses := true, named := ["letterbag/digit.products", "letterbag/digit.turned"], apart := false, laid := [("letterbag/digit.products", laid_letterbag_digit_products), ("letterbag/digit.turned", laid_letterbag_digit_turned)], narrowed := true }
def DigitTellsUptoSaid : Prop := digitTellsUptoRow.holds Tryd.pinned (OpenSpec.upto digitTellsSpec)

/-- 'letterbaglaw16.DigitSmall', WHERE WHAT IT READS IS OF BULK AT MOST 1048576: true; the input reads as it did. -/
def digitSmallUptoRow : OpenClaim := { program := "ytnmnfbibjghjhaadoor", sum := "09212954d2bab5a445a987bb50be2d9510d7fde5ba806302be01676e86488634", func := "letterbag/letterbaglaw16.DigitSmall", spec := "digitSmall", unfollowed := true, recurses := true, named := ["letterbag/digit.products", "letterbag/digit.turned"], apart := false, laid := [("letterbag/digit.products", laid_letterbag_digit_products), ("letterbag/digit.turned", laid_letterbag_digit_turned)], narrowed := true }
def DigitSmallUptoSaid : Prop := digitSmallUptoRow.holds Tryd.pinned (OpenSpec.upto digitSmallSpec)

/-- 'letterbaglaw16.DigitFinds', WHERE WHAT IT READS IS OF BULK AT MOST 1048576: true; the input reads as it did. -/
def digitFindsUptoRow : OpenClaim := { program := "ytnmnfbibjghjhaadoor", sum := "09212954d2bab5a445a987bb50be2d9510d7fde5ba806302be01676e86488634", func := "letterbag/letterbaglaw16.DigitFinds", spec := "digitFinds", unfollowed := true, recurses := true, named := ["letterbag/digit.products", "letterbag/digit.turned"], apart := false, laid := [("letterbag/digit.products", laid_letterbag_digit_products), ("letterbag/digit.turned", laid_letterbag_digit_turned)], narrowed := true }
def DigitFindsUptoSaid : Prop := digitFindsUptoRow.holds Tryd.pinned (OpenSpec.upto digitFindsSpec)

/-- 'letterbaglaw16.DigitWeights', WHERE WHAT IT READS IS OF BULK AT MOST 1048576: true; the input reads as it did. -/
def digitWeightsUptoRow : OpenClaim := { program := "ytnmnfbibjghjhaadoor", sum := "09212954d2bab5a445a987bb50be2d9510d7fde5ba806302be01676e86488634", func := "letterbag/letterbaglaw16.DigitWeights", spec := "digitWeights", unfollowed := true, recurses := true, named := ["letterbag/digit.products", "letterbag/digit.turned"], apart := false, laid := [("letterbag/digit.products", laid_letterbag_digit_products), ("letterbag/digit.turned", laid_letterbag_digit_turned)], narrowed := true }
def DigitWeightsUptoSaid : Prop := digitWeightsUptoRow.holds Tryd.pinned (OpenSpec.upto digitWeightsSpec)

/-- 'letterbaglaw16.DigitLuhn', WHERE WHAT IT READS IS OF BULK AT MOST 1048576: true; the input reads as it did. -/
def digitLuhnUptoRow : OpenClaim := { program := "ytnmnfbibjghjhaadoor", sum := "09212954d2bab5a445a987bb50be2d9510d7fde5ba806302be01676e86488634", func := "letterbag/letterbaglaw16.DigitLuhn", spec := "digitLuhn", unfollowed := true, recurses := true, named := ["letterbag/digit.products", "letterbag/digit.turned"], apart := false, laid := [("letterbag/digit.products", laid_letterbag_digit_products), ("letterbag/digit.turned", laid_letterbag_digit_turned)], narrowed := true }
def DigitLuhnUptoSaid : Prop := digitLuhnUptoRow.holds Tryd.pinned (OpenSpec.upto digitLuhnSpec)

end Rows
end Go.Proofs.YtnmnfbibjghjhaaDoor
