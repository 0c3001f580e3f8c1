/-
  No cell of these rows narrows 'for every input' (looked for: loops, veiled, ifaces, maps, wideKeys, modest, calm, conditions, laid).
  DERIVED. THE GIVEN ROWS OF THIS SEAT. 12 by the template 'for every input the law returns true; each argument reads behind the call as it read before'; 0 by the template 'total and deterministic' (their statements: YthhfhdekhgkcaaaTotals.lean).
  GIVEN WITH THE SEED: the statements are not yours to turn. If you find one false, say at which input.
  Laid BY PROGRAM, IN A SANDBOX (cutbox-rows.mjs): the forced cells as the released guide's own fill.sh prints them over the translation b8706a857ba38d27… (all of the seat's roots in one cut). By AI agents, Wed Nov 11 2026. No macro, syntax, notation, axiom, sorry.
-/
import Derived.Test.YthhfhdekhgkcaaaChecked
import GoSem.Claim
import GoSem.ClaimJoined
import GoSem.ClaimMapViews
import Derived.JoinedTies
import Derived.KernelRfl
namespace Go.Proofs.Ythhfhdekhgkcaaa
/- THE CELL 'sum', in the pinned program and in every row, IS THE sha256 OF THE DUMP (.gsa) THAT YthhfhdekhgkcaaaProg.lean LOADS. Nothing in Lean hashes anything: it is a label: what it is worth is what the hold of that sum in a sandbox is worth. -/
noncomputable def Try.pinned : Pinned := { name := "ythhfhdekhgkcaaa", sum := "b8706a857ba38d27e7382be81ff80fff1712c44611ecdf914b5672758ed67b4a", checked := Try.checked }
namespace Rows
def none {H : Type} : Left H := { results := [], args := [] }

/-- 'laws.FnExactIsClause': WHATEVER THE INPUT: true; the input reads as it did. -/
def fnExactIsClauseSpec : ChangeSpec := { name := "fnExactIsClause", fn := fun _ => fun
  | [d] => { results := [.lit (.bool true)], args := [d] }
  | _ => none }
def fnExactIsClauseRow : OpenClaim := { program := "ythhfhdekhgkcaaa", sum := "b8706a857ba38d27e7382be81ff80fff1712c44611ecdf914b5672758ed67b4a", func := "loop.example/g01010/laws.FnExactIsClause", spec := "fnExactIsClause", apart := false }
def FnExactIsClauseSaid : Prop := fnExactIsClauseRow.holds Try.pinned (OpenSpec.ofChange fnExactIsClauseSpec)

/-- ITS FALSE NEIGHBOUR: 'it returns false'. Refute it at one input. -/
def fnExactIsClauseWrong : ChangeSpec := { name := "fnExactIsClause", fn := fun _ => fun
  | [d] => { results := [.lit (.bool false)], args := [d] }
  | _ => none }
def FnExactIsClauseWrongFalsely : Prop := fnExactIsClauseRow.holds Try.pinned (OpenSpec.ofChange fnExactIsClauseWrong)

/-- 'laws.FnExactDoesMatch': WHATEVER THE INPUT: true; the input reads as it did. -/
def fnExactDoesMatchSpec : ChangeSpec := { name := "fnExactDoesMatch", fn := fun _ => fun
  | [d1, d2] => { results := [.lit (.bool true)], args := [d1, d2] }
  | _ => none }
def fnExactDoesMatchRow : OpenClaim := { program := "ythhfhdekhgkcaaa", sum := "b8706a857ba38d27e7382be81ff80fff1712c44611ecdf914b5672758ed67b4a", func := "loop.example/g01010/laws.FnExactDoesMatch", spec := "fnExactDoesMatch", apart := false }
def FnExactDoesMatchSaid : Prop := fnExactDoesMatchRow.holds Try.pinned (OpenSpec.ofChange fnExactDoesMatchSpec)

/-- ITS FALSE NEIGHBOUR: 'it returns false'. Refute it at one input. -/
def fnExactDoesMatchWrong : ChangeSpec := { name := "fnExactDoesMatch", fn := fun _ => fun
  | [d1, d2] => { results := [.lit (.bool false)], args := [d1, d2] }
  | _ => none }
def FnExactDoesMatchWrongFalsely : Prop := fnExactDoesMatchRow.holds Try.pinned (OpenSpec.ofChange fnExactDoesMatchWrong)

/-- 'laws.FnExactWhyNot': WHATEVER THE INPUT: true; the input reads as it did. -/
def fnExactWhyNotSpec : ChangeSpec := { name := "fnExactWhyNot", fn := fun _ => fun
  | [d1, d2] => { results := [.lit (.bool true)], args := [d1, d2] }
  | _ => none }
def fnExactWhyNotRow : OpenClaim := { program := "ythhfhdekhgkcaaa", sum := "b8706a857ba38d27e7382be81ff80fff1712c44611ecdf914b5672758ed67b4a", func := "loop.example/g01010/laws.FnExactWhyNot", spec := "fnExactWhyNot", apart := false }
def FnExactWhyNotSaid : Prop := fnExactWhyNotRow.holds Try.pinned (OpenSpec.ofChange fnExactWhyNotSpec)

/-- ITS FALSE NEIGHBOUR: 'it returns false'. Refute it at one input. -/
def fnExactWhyNotWrong : ChangeSpec := { name := "fnExactWhyNot", fn := fun _ => fun
  | [d1, d2] => { results := [.lit (.bool false)], args := [d1, d2] }
  | _ => none }
def FnExactWhyNotWrongFalsely : Prop := fnExactWhyNotRow.holds Try.pinned (OpenSpec.ofChange fnExactWhyNotWrong)

/-- 'laws.FnExactIsRulebook': WHATEVER THE INPUT: true; the input reads as it did. -/
def fnExactIsRulebookSpec : ChangeSpec := { name := "fnExactIsRulebook", fn := fun _ => fun
  | [d] => { results := [.lit (.bool true)], args := [d] }
  | _ => none }
def fnExactIsRulebookRow : OpenClaim := { program := "ythhfhdekhgkcaaa", sum := "b8706a857ba38d27e7382be81ff80fff1712c44611ecdf914b5672758ed67b4a", func := "loop.example/g01010/laws.FnExactIsRulebook", spec := "fnExactIsRulebook", unfollowed := true, recurses := true, apart := false }
def FnExactIsRulebookSaid : Prop := fnExactIsRulebookRow.holds Try.pinned (OpenSpec.ofChange fnExactIsRulebookSpec)

/-- ITS FALSE NEIGHBOUR: 'it returns false'. Refute it at one input. -/
def fnExactIsRulebookWrong : ChangeSpec := { name := "fnExactIsRulebook", fn := fun _ => fun
  | [d] => { results := [.lit (.bool false)], args := [d] }
  | _ => none }
def FnExactIsRulebookWrongFalsely : Prop := fnExactIsRulebookRow.holds Try.pinned (OpenSpec.ofChange fnExactIsRulebookWrong)

/-- 'laws.FnExactFindClause': WHATEVER THE INPUT: true; the input reads as it did. -/
def fnExactFindClauseSpec : ChangeSpec := { name := "fnExactFindClause", fn := fun _ => fun
  | [d1, d2] => { results := [.lit (.bool true)], args := [d1, d2] }
  | _ => none }
def fnExactFindClauseRow : OpenClaim := { program := "ythhfhdekhgkcaaa", sum := "b8706a857ba38d27e7382be81ff80fff1712c44611ecdf914b5672758ed67b4a", func := "loop.example/g01010/laws.FnExactFindClause", spec := "fnExactFindClause", unfollowed := true, recurses := true, apart := false }
def FnExactFindClauseSaid : Prop := fnExactFindClauseRow.holds Try.pinned (OpenSpec.ofChange fnExactFindClauseSpec)

/-- ITS FALSE NEIGHBOUR: 'it returns false'. Refute it at one input. -/
def fnExactFindClauseWrong : ChangeSpec := { name := "fnExactFindClause", fn := fun _ => fun
  | [d1, d2] => { results := [.lit (.bool false)], args := [d1, d2] }
  | _ => none }
def FnExactFindClauseWrongFalsely : Prop := fnExactFindClauseRow.holds Try.pinned (OpenSpec.ofChange fnExactFindClauseWrong)

/-- 'laws.FnExactFirstMatch': WHATEVER THE INPUT: true; the input reads as it did. -/
def fnExactFirstMatchSpec : ChangeSpec := { name := "fnExactFirstMatch", fn := fun _ => fun
  | [d1, d2, d3] => { results := [.lit (.bool true)], args := [d1, d2, d3] }
  | _ => none }
def fnExactFirstMatchRow : OpenClaim := { program := "ythhfhdekhgkcaaa", sum := "b8706a857ba38d27e7382be81ff80fff1712c44611ecdf914b5672758ed67b4a", func := "loop.example/g01010/laws.FnExactFirstMatch", spec := "fnExactFirstMatch", unfollowed := true, recurses := true, apart := false }
def FnExactFirstMatchSaid : Prop := fnExactFirstMatchRow.holds Try.pinned (OpenSpec.ofChange fnExactFirstMatchSpec)

/-- ITS FALSE NEIGHBOUR: 'it returns false'. Refute it at one input. -/
def fnExactFirstMatchWrong : ChangeSpec := { name := "fnExactFirstMatch", fn := fun _ => fun
  | [d1, d2, d3] => { results := [.lit (.bool false)], args := [d1, d2, d3] }
  | _ => none }
def FnExactFirstMatchWrongFalsely : Prop := fnExactFirstMatchRow.holds Try.pinned (OpenSpec.ofChange fnExactFirstMatchWrong)

/-- 'laws.FnExactIsReachable': WHATEVER THE INPUT: true; the input reads as it did. -/
def fnExactIsReachableSpec : ChangeSpec := { name := "fnExactIsReachable", fn := fun _ => fun
  | [d1, d2] => { results := [.lit (.bool true)], args := [d1, d2] }
  | _ => none }
def fnExactIsReachableRow : OpenClaim := { program := "ythhfhdekhgkcaaa", sum := "b8706a857ba38d27e7382be81ff80fff1712c44611ecdf914b5672758ed67b4a", func := "loop.example/g01010/laws.FnExactIsReachable", spec := "fnExactIsReachable", unfollowed := true, recurses := true, apart := false }
def FnExactIsReachableSaid : Prop := fnExactIsReachableRow.holds Try.pinned (OpenSpec.ofChange fnExactIsReachableSpec)

/-- ITS FALSE NEIGHBOUR: 'it returns false'. Refute it at one input. -/
def fnExactIsReachableWrong : ChangeSpec := { name := "fnExactIsReachable", fn := fun _ => fun
  | [d1, d2] => { results := [.lit (.bool false)], args := [d1, d2] }
  | _ => none }
def FnExactIsReachableWrongFalsely : Prop := fnExactIsReachableRow.holds Try.pinned (OpenSpec.ofChange fnExactIsReachableWrong)

/-- 'laws.FnExactDecideEvent': WHATEVER THE INPUT: true; the input reads as it did. -/
def fnExactDecideEventSpec : ChangeSpec := { name := "fnExactDecideEvent", fn := fun _ => fun
  | [d1, d2] => { results := [.lit (.bool true)], args := [d1, d2] }
  | _ => none }
def fnExactDecideEventRow : OpenClaim := { program := "ythhfhdekhgkcaaa", sum := "b8706a857ba38d27e7382be81ff80fff1712c44611ecdf914b5672758ed67b4a", func := "loop.example/g01010/laws.FnExactDecideEvent", spec := "fnExactDecideEvent", unfollowed := true, recurses := true, apart := false }
def FnExactDecideEventSaid : Prop := fnExactDecideEventRow.holds Try.pinned (OpenSpec.ofChange fnExactDecideEventSpec)

/-- ITS FALSE NEIGHBOUR: 'it returns false'. Refute it at one input. -/
def fnExactDecideEventWrong : ChangeSpec := { name := "fnExactDecideEvent", fn := fun _ => fun
  | [d1, d2] => { results := [.lit (.bool false)], args := [d1, d2] }
  | _ => none }
def FnExactDecideEventWrongFalsely : Prop := fnExactDecideEventRow.holds Try.pinned (OpenSpec.ofChange fnExactDecideEventWrong)

/-- 'laws.FnExactDecideLog': WHATEVER THE INPUT: true; the input reads as it did. -/
def fnExactDecideLogSpec : ChangeSpec := { name := "fnExactDecideLog", fn := fun _ => fun
  | [d1, d2] => { results := [.lit (.bool true)], args := [d1, d2] }
  | _ => none }
def fnExactDecideLogRow : OpenClaim := { program := "ythhfhdekhgkcaaa", sum := "b8706a857ba38d27e7382be81ff80fff1712c44611ecdf914b5672758ed67b4a", func := "loop.example/g01010/laws.FnExactDecideLog", spec := "fnExactDecideLog", unfollowed := true, recurses := true, apart := false }
def FnExactDecideLogSaid : Prop := fnExactDecideLogRow.holds Try.pinned (OpenSpec.ofChange fnExactDecideLogSpec)

/-- ITS FALSE NEIGHBOUR: 'it returns false'. Refute it at one input. -/
def fnExactDecideLogWrong : ChangeSpec := { name := "fnExactDecideLog", fn := fun _ => fun
  | [d1, d2] => { results := [.lit (.bool false)], args := [d1, d2] }
  | _ => none }
def FnExactDecideLogWrongFalsely : Prop := fnExactDecideLogRow.holds Try.pinned (OpenSpec.ofChange fnExactDecideLogWrong)

/-- 'laws.FnExactLongestChain': WHATEVER THE INPUT: true; the input reads as it did. -/
def fnExactLongestChainSpec : ChangeSpec := { name := "fnExactLongestChain", fn := fun _ => fun
  | [d1, d2] => { results := [.lit (.bool true)], args := [d1, d2] }
  | _ => none }
def fnExactLongestChainRow : OpenClaim := { program := "ythhfhdekhgkcaaa", sum := "b8706a857ba38d27e7382be81ff80fff1712c44611ecdf914b5672758ed67b4a", func := "loop.example/g01010/laws.FnExactLongestChain", spec := "fnExactLongestChain", unfollowed := true, recurses := true, apart := false }
def FnExactLongestChainSaid : Prop := fnExactLongestChainRow.holds Try.pinned (OpenSpec.ofChange fnExactLongestChainSpec)

/-- ITS FALSE NEIGHBOUR: 'it returns false'. Refute it at one input. -/
def fnExactLongestChainWrong : ChangeSpec := { name := "fnExactLongestChain", fn := fun _ => fun
  | [d1, d2] => { results := [.lit (.bool false)], args := [d1, d2] }
  | _ => none }
def FnExactLongestChainWrongFalsely : Prop := fnExactLongestChainRow.holds Try.pinned (OpenSpec.ofChange fnExactLongestChainWrong)

/-- 'laws.FnExactCountUses': WHATEVER THE INPUT: true; the input reads as it did. -/
def fnExactCountUsesSpec : ChangeSpec := { name := "fnExactCountUses", fn := fun _ => fun
  | [d1, d2] => { results := [.lit (.bool true)], args := [d1, d2] }
  | _ => none }
def fnExactCountUsesRow : OpenClaim := { program := "ythhfhdekhgkcaaa", sum := "b8706a857ba38d27e7382be81ff80fff1712c44611ecdf914b5672758ed67b4a", func := "loop.example/g01010/laws.FnExactCountUses", spec := "fnExactCountUses", unfollowed := true, recurses := true, apart := false }
def FnExactCountUsesSaid : Prop := fnExactCountUsesRow.holds Try.pinned (OpenSpec.ofChange fnExactCountUsesSpec)

/-- ITS FALSE NEIGHBOUR: 'it returns false'. Refute it at one input. -/
def fnExactCountUsesWrong : ChangeSpec := { name := "fnExactCountUses", fn := fun _ => fun
  | [d1, d2] => { results := [.lit (.bool false)], args := [d1, d2] }
  | _ => none }
def FnExactCountUsesWrongFalsely : Prop := fnExactCountUsesRow.holds Try.pinned (OpenSpec.ofChange fnExactCountUsesWrong)

/-- 'laws.FnExactTotalsByResult': WHATEVER THE INPUT: true; the input reads as it did. -/
def fnExactTotalsByResultSpec : ChangeSpec := { name := "fnExactTotalsByResult", fn := fun _ => fun
  | [d1, d2] => { results := [.lit (.bool true)], args := [d1, d2] }
  | _ => none }
def fnExactTotalsByResultRow : OpenClaim := { program := "ythhfhdekhgkcaaa", sum := "b8706a857ba38d27e7382be81ff80fff1712c44611ecdf914b5672758ed67b4a", func := "loop.example/g01010/laws.FnExactTotalsByResult", spec := "fnExactTotalsByResult", unfollowed := true, recurses := true, apart := false }
def FnExactTotalsByResultSaid : Prop := fnExactTotalsByResultRow.holds Try.pinned (OpenSpec.ofChange fnExactTotalsByResultSpec)

/-- ITS FALSE NEIGHBOUR: 'it returns false'. Refute it at one input. -/
def fnExactTotalsByResultWrong : ChangeSpec := { name := "fnExactTotalsByResult", fn := fun _ => fun
  | [d1, d2] => { results := [.lit (.bool false)], args := [d1, d2] }
  | _ => none }
def FnExactTotalsByResultWrongFalsely : Prop := fnExactTotalsByResultRow.holds Try.pinned (OpenSpec.ofChange fnExactTotalsByResultWrong)

/- THE SECOND FORM. 'bulk': how many values and letters a reading holds, each counted each time it is reached (what is shared counts as often as it is met; a slice's spare places count too). A statement '..UptoSaid' is the law's where the arguments, and the package variables that the reading takes, are together of bulk at most 1048576: NARROWER than '..Said'. Prove '..Said' where nothing that the law and all that it calls make is longer than what came in: it says more and counts as full. Else prove '..UptoSaid'. A law counts once. -/
mutual
def uptoBulk {H : Type} : DataW H → Nat
  | .lit (.string bytes) => bytes.length + 1
  | .lit _ => 1
  | .nil => 1
  | .ptr d => uptoBulk d + 1
  | .slice elems spare => uptoBulkAll elems + uptoBulkAll spare + 1
  | .agg parts => uptoBulkAll parts + 1
  | .iface _ d => uptoBulk d + 1
  | .map entries => uptoBulkEntries entries + 1
  | .held _ => 1
def uptoBulkAll {H : Type} : List (DataW H) → Nat
  | [] => 0
  | d :: r => uptoBulk d + uptoBulkAll r
def uptoBulkEntries {H : Type} : List (Lit × DataW H) → Nat
  | [] => 0
  | x :: r => uptoBulkEntry x + uptoBulkEntries r
def uptoBulkEntry {H : Type} : Lit × DataW H → Nat
  | (.string bytes, d) => bytes.length + uptoBulk d + 1
  | (_, d) => uptoBulk d + 1
 end
def uptoSmall : (H : Type) → List (DataW H) → Bool := fun _ ds => decide (uptoBulkAll ds ≤ 1048576)
def OpenSpec.upto (s : _root_.Go.ChangeSpec) : _root_.Go.OpenSpec := { _root_.Go.OpenSpec.ofChange s with cond := some uptoSmall }

/-- 'laws.FnExactIsClause', WHERE WHAT IT READS IS OF BULK AT MOST 1048576: true; the input reads as it did. -/
def fnExactIsClauseUptoRow : OpenClaim := { program := "ythhfhdekhgkcaaa", sum := "b8706a857ba38d27e7382be81ff80fff1712c44611ecdf914b5672758ed67b4a", func := "loop.example/g01010/laws.FnExactIsClause", spec := "fnExactIsClause", apart := false, narrowed := true }
def FnExactIsClauseUptoSaid : Prop := fnExactIsClauseUptoRow.holds Try.pinned (OpenSpec.upto fnExactIsClauseSpec)

/-- 'laws.FnExactDoesMatch', WHERE WHAT IT READS IS OF BULK AT MOST 1048576: true; the input reads as it did. -/
def fnExactDoesMatchUptoRow : OpenClaim := { program := "ythhfhdekhgkcaaa", sum := "b8706a857ba38d27e7382be81ff80fff1712c44611ecdf914b5672758ed67b4a", func := "loop.example/g01010/laws.FnExactDoesMatch", spec := "fnExactDoesMatch", apart := false, narrowed := true }
def FnExactDoesMatchUptoSaid : Prop := fnExactDoesMatchUptoRow.holds Try.pinned (OpenSpec.upto fnExactDoesMatchSpec)

/-- 'laws.FnExactWhyNot', WHERE WHAT IT READS IS OF BULK AT MOST 1048576: true; the input reads as it did. -/
def fnExactWhyNotUptoRow : OpenClaim := { program := "ythhfhdekhgkcaaa", sum := "b8706a857ba38d27e7382be81ff80fff1712c44611ecdf914b5672758ed67b4a", func := "loop.example/g01010/laws.FnExactWhyNot", spec := "fnExactWhyNot", apart := false, narrowed := true }
def FnExactWhyNotUptoSaid : Prop := fnExactWhyNotUptoRow.holds Try.pinned (OpenSpec.upto fnExactWhyNotSpec)

/-- 'laws.FnExactIsRulebook', WHERE WHAT IT READS IS OF BULK AT MOST 1048576: true; the input reads as it did. -/
def fnExactIsRulebookUptoRow : OpenClaim := { program := "ythhfhdekhgkcaaa", sum := "b8706a857ba38d27e7382be81ff80fff1712c44611ecdf914b5672758ed67b4a", func := "loop.example/g01010/laws.FnExactIsRulebook", spec := "fnExactIsRulebook", unfollowed := true, recurses := true, apart := false, narrowed := true }
def FnExactIsRulebookUptoSaid : Prop := fnExactIsRulebookUptoRow.holds Try.pinned (OpenSpec.upto fnExactIsRulebookSpec)

/-- 'laws.FnExactFindClause', WHERE WHAT IT READS IS OF BULK AT MOST 1048576: true; the input reads as it did. -/
def fnExactFindClauseUptoRow : OpenClaim := { program := "ythhfhdekhgkcaaa", sum := "b8706a857ba38d27e7382be81ff80fff1712c44611ecdf914b5672758ed67b4a", func := "loop.example/g01010/laws.FnExactFindClause", spec := "fnExactFindClause", unfollowed := true, recurses := true, apart := false, narrowed := true }
def FnExactFindClauseUptoSaid : Prop := fnExactFindClauseUptoRow.holds Try.pinned (OpenSpec.upto fnExactFindClauseSpec)

/-- 'laws.FnExactFirstMatch', WHERE WHAT IT READS IS OF BULK AT MOST 1048576: true; the input reads as it did. -/
def fnExactFirstMatchUptoRow : OpenClaim := { program := "ythhfhdekhgkcaaa", sum := "b8706a857ba38d27e7382be81ff80fff1712c44611ecdf914b5672758ed67b4a", func := "loop.example/g01010/laws.FnExactFirstMatch", spec := "fnExactFirstMatch", unfollowed := true, recurses := true, apart := false, narrowed := true }
def FnExactFirstMatchUptoSaid : Prop := fnExactFirstMatchUptoRow.holds Try.pinned (OpenSpec.upto fnExactFirstMatchSpec)

/-- 'laws.FnExactIsReachable', WHERE WHAT IT READS IS OF BULK AT MOST 1048576: true; the input reads as it did. -/
def fnExactIsReachableUptoRow : OpenClaim := { program := "ythhfhdekhgkcaaa", sum := "b8706a857ba38d27e7382be81ff80fff1712c44611ecdf914b5672758ed67b4a", func := "loop.example/g01010/laws.FnExactIsReachable", spec := "fnExactIsReachable", unfollowed := true, recurses := true, apart := false, narrowed := true }
def FnExactIsReachableUptoSaid : Prop := fnExactIsReachableUptoRow.holds Try.pinned (OpenSpec.upto fnExactIsReachableSpec)

/-- 'laws.FnExactDecideEvent', WHERE WHAT IT READS IS OF BULK AT MOST 1048576: true; the input reads as it did. -/
def fnExactDecideEventUptoRow : OpenClaim := { program := "ythhfhdekhgkcaaa", sum := "b8706a857ba38d27e7382be81ff80fff1712c44611ecdf914b5672758ed67b4a", func := "loop.example/g01010/laws.FnExactDecideEvent", spec := "fnExactDecideEvent", unfollowed := true, recurses := true, apart := false, narrowed := true }
def FnExactDecideEventUptoSaid : Prop := fnExactDecideEventUptoRow.holds Try.pinned (OpenSpec.upto fnExactDecideEventSpec)

/-- 'laws.FnExactDecideLog', WHERE WHAT IT READS IS OF BULK AT MOST 1048576: true; the input reads as it did. -/
def fnExactDecideLogUptoRow : OpenClaim := { program := "ythhfhdekhgkcaaa", sum := "b8706a857ba38d27e7382be81ff80fff1712c44611ecdf914b5672758ed67b4a", func := "loop.example/g01010/laws.FnExactDecideLog", spec := "fnExactDecideLog", unfollowed := true, recurses := true, apart := false, narrowed := true }
def FnExactDecideLogUptoSaid : Prop := fnExactDecideLogUptoRow.holds Try.pinned (OpenSpec.upto fnExactDecideLogSpec)

/-- 'laws.FnExactLongestChain', WHERE WHAT IT READS IS OF BULK AT MOST 1048576: true; the input reads as it did. -/
def fnExactLongestChainUptoRow : OpenClaim := { program := "ythhfhdekhgkcaaa", sum := "b8706a857ba38d27e7382be81ff80fff1712c44611ecdf914b5672758ed67b4a", func := "loop.example/g01010/laws.FnExactLongestChain", spec := "fnExactLongestChain", unfollowed := true, recurses := true, apart := false, narrowed := true }
def FnExactLongestChainUptoSaid : Prop := fnExactLongestChainUptoRow.holds Try.pinned (OpenSpec.upto fnExactLongestChainSpec)

/-- 'laws.FnExactCountUses', WHERE WHAT IT READS IS OF BULK AT MOST 1048576: true; the input reads as it did. -/
def fnExactCountUsesUptoRow : OpenClaim := { program := "ythhfhdekhgkcaaa", sum := "b8706a857ba38d27e7382be81ff80fff1712c44611ecdf914b5672758ed67b4a", func := "loop.example/g01010/laws.FnExactCountUses", spec := "fnExactCountUses", unfollowed := true, recurses := true, apart := false, narrowed := true }
def FnExactCountUsesUptoSaid : Prop := fnExactCountUsesUptoRow.holds Try.pinned (OpenSpec.upto fnExactCountUsesSpec)

/-- 'laws.FnExactTotalsByResult', WHERE WHAT IT READS IS OF BULK AT MOST 1048576: true; the input reads as it did. -/
def fnExactTotalsByResultUptoRow : OpenClaim := { program := "ythhfhdekhgkcaaa", sum := "b8706a857ba38d27e7382be81ff80fff1712c44611ecdf914b5672758ed67b4a", func := "loop.example/g01010/laws.FnExactTotalsByResult", spec := "fnExactTotalsByResult", unfollowed := true, recurses := true, apart := false, narrowed := true }
def FnExactTotalsByResultUptoSaid : Prop := fnExactTotalsByResultUptoRow.holds Try.pinned (OpenSpec.upto fnExactTotalsByResultSpec)

end Rows
end Go.Proofs.Ythhfhdekhgkcaaa
