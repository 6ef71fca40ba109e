/-
  No cell of these rows narrows 'for every input' (looked for: loops, veiled, ifaces, maps, wideKeys, modest, calm, conditions, laid).
  DERIVED. THE GIVEN ROWS OF THIS SEAT. 3 by the template 'for every input the law returns true; each argument reads behind the call as it read before'; 0 by the template 'total and deterministic' (their statements: YthnejajlkijobaaTotals.lean).
  GIVEN WITH THE SEED: the statements are not yours to turn. If you find one false, say at which input.
  Laid BY PROGRAM, IN A SANDBOX (cutbox-rows.mjs): the forced cells as the released guide's own fill.sh prints them over the translation a91596d0ad8b91b7… (all of the seat's roots in one cut). By AI agents, Wed Nov 11 2026. No macro, syntax, notation, axiom, sorry.
-/
import Derived.Test.YthnejajlkijobaaChecked
import GoSem.Claim
import GoSem.ClaimJoined
import GoSem.ClaimMapViews
import Derived.JoinedTies
import Derived.KernelRfl
namespace Go.Proofs.Ythnejajlkijobaa
/- THE CELL 'sum', in the pinned program and in every row, IS THE sha256 OF THE DUMP (.gsa) THAT YthnejajlkijobaaProg.lean LOADS. Nothing in Lean hashes anything: it is a label: what it is worth is what the hold of that sum in a sandbox is worth. -/
noncomputable def Try.pinned : Pinned := { name := "ythnejajlkijobaa", sum := "a91596d0ad8b91b77d62c1b3fd16de48511a48ecba2c74fbc40b3dafb796bbcf", checked := Try.checked }
namespace Rows
def none {H : Type} : Left H := { results := [], args := [] }

/-- 'collatorlaw08.ScopeActs': WHATEVER THE INPUT: true; the input reads as it did. -/
def scopeActsSpec : ChangeSpec := { name := "scopeActs", fn := fun _ => fun
  | [d1, d2] => { results := [.lit (.bool true)], args := [d1, d2] }
  | _ => none }
def scopeActsRow : OpenClaim := { program := "ythnejajlkijobaa", sum := "a91596d0ad8b91b77d62c1b3fd16de48511a48ecba2c74fbc40b3dafb796bbcf", func := "collator/collatorlaw08.ScopeActs", spec := "scopeActs", apart := false }
def ScopeActsSaid : Prop := scopeActsRow.holds Try.pinned (OpenSpec.ofChange scopeActsSpec)

/-- ITS FALSE NEIGHBOUR: 'it returns false'. Refute it at one input. -/
def scopeActsWrong : ChangeSpec := { name := "scopeActs", fn := fun _ => fun
  | [d1, d2] => { results := [.lit (.bool false)], args := [d1, d2] }
  | _ => none }
def ScopeActsWrongFalsely : Prop := scopeActsRow.holds Try.pinned (OpenSpec.ofChange scopeActsWrong)

/-- 'collatorlaw03.ScoreBest': WHATEVER THE INPUT: true; the input reads as it did. -/
def scoreBestSpec : ChangeSpec := { name := "scoreBest", fn := fun _ => fun
  | [d1, d2, d3] => { results := [.lit (.bool true)], args := [d1, d2, d3] }
  | _ => none }
def scoreBestRow : OpenClaim := { program := "ythnejajlkijobaa", sum := "a91596d0ad8b91b77d62c1b3fd16de48511a48ecba2c74fbc40b3dafb796bbcf", func := "collator/collatorlaw03.ScoreBest", spec := "scoreBest", inPlace := ["math.Float64frombits", "math.Float64bits"], apart := false }
def ScoreBestSaid : Prop := scoreBestRow.holds Try.pinned (OpenSpec.ofChange scoreBestSpec)

/-- ITS FALSE NEIGHBOUR: 'it returns false'. Refute it at one input. -/
def scoreBestWrong : ChangeSpec := { name := "scoreBest", fn := fun _ => fun
  | [d1, d2, d3] => { results := [.lit (.bool false)], args := [d1, d2, d3] }
  | _ => none }
def ScoreBestWrongFalsely : Prop := scoreBestRow.holds Try.pinned (OpenSpec.ofChange scoreBestWrong)

/-- 'collatorlaw03.ScoreActs': WHATEVER THE INPUT: true; the input reads as it did. -/
def scoreActsSpec : ChangeSpec := { name := "scoreActs", fn := fun _ => fun
  | [d1, d2, d3, d4] => { results := [.lit (.bool true)], args := [d1, d2, d3, d4] }
  | _ => none }
def scoreActsRow : OpenClaim := { program := "ythnejajlkijobaa", sum := "a91596d0ad8b91b77d62c1b3fd16de48511a48ecba2c74fbc40b3dafb796bbcf", func := "collator/collatorlaw03.ScoreActs", spec := "scoreActs", inPlace := ["math.Float64frombits", "math.Float64bits"], apart := false }
def ScoreActsSaid : Prop := scoreActsRow.holds Try.pinned (OpenSpec.ofChange scoreActsSpec)

/-- ITS FALSE NEIGHBOUR: 'it returns false'. Refute it at one input. -/
def scoreActsWrong : ChangeSpec := { name := "scoreActs", fn := fun _ => fun
  | [d1, d2, d3, d4] => { results := [.lit (.bool false)], args := [d1, d2, d3, d4] }
  | _ => none }
def ScoreActsWrongFalsely : Prop := scoreActsRow.holds Try.pinned (OpenSpec.ofChange scoreActsWrong)

/- THE SECOND FORM. 'bulk': how many values and letters a reading holds, each counted each time it is reached (what is shared counts as often as it is met; a slice's spare places count too). A statement '..UptoSaid' is the law's where the arguments, and the package variables that the reading takes, are together of bulk at most 1048576: NARROWER than '..Said'. Prove '..Said' where nothing that the law and all that it calls make is longer than what came in: it says more and counts as full. Else prove '..UptoSaid'. A law counts once. -/
mutual
def uptoBulk {H : Type} : DataW H → Nat
  | .lit (.string bytes) => bytes.length + 1
  | .lit _ => 1
  | .nil => 1
  | .ptr d => uptoBulk d + 1
  | .slice elems spare => uptoBulkAll elems + uptoBulkAll spare + 1
  | .agg parts => uptoBulkAll parts + 1
  | .iface _ d => uptoBulk d + 1
  | .map entries => uptoBulkEntries entries + 1
  | .held _ => 1
def uptoBulkAll {H : Type} : List (DataW H) → Nat
  | [] => 0
  | d :: r => uptoBulk d + uptoBulkAll r
def uptoBulkEntries {H : Type} : List (Lit × DataW H) → Nat
  | [] => 0
  | x :: r => uptoBulkEntry x + uptoBulkEntries r
def uptoBulkEntry {H : Type} : Lit × DataW H → Nat
  | (.string bytes, d) => bytes.length + uptoBulk d + 1
  | (_, d) => uptoBulk d + 1
 end
def uptoSmall : (H : Type) → List (DataW H) → Bool := fun _ ds => decide (uptoBulkAll ds ≤ 1048576)
def OpenSpec.upto (s : _root_.Go.ChangeSpec) : _root_.Go.OpenSpec := { _root_.Go.OpenSpec.ofChange s with cond := some uptoSmall }

/-- 'collatorlaw08.ScopeActs', WHERE WHAT IT READS IS OF BULK AT MOST 1048576: true; the input reads as it did. -/
def scopeActsUptoRow : OpenClaim := { program := "ythnejajlkijobaa", sum := "a91596d0ad8b91b77d62c1b3fd16de48511a48ecba2c74fbc40b3dafb796bbcf", func := "collator/collatorlaw08.ScopeActs", spec := "scopeActs", apart := false, narrowed := true }
def ScopeActsUptoSaid : Prop := scopeActsUptoRow.holds Try.pinned (OpenSpec.upto scopeActsSpec)

/-- 'collatorlaw03.ScoreBest', WHERE WHAT IT READS IS OF BULK AT MOST 1048576: true; the input reads as it did. -/
def scoreBestUptoRow : OpenClaim := { program := "ythnejajlkijobaa", sum := "a91596d0ad8b91b77d62c1b3fd16de48511a48ecba2c74fbc40b3dafb796bbcf", func := "collator/collatorlaw03.ScoreBest", spec := "scoreBest", inPlace := ["math.Float64frombits", "math.Float64bits"], apart := false, narrowed := true }
def ScoreBestUptoSaid : Prop := scoreBestUptoRow.holds Try.pinned (OpenSpec.upto scoreBestSpec)

/-- 'collatorlaw03.ScoreActs', WHERE WHAT IT READS IS OF BULK AT MOST 1048576: true; the input reads as it did. -/
def scoreActsUptoRow : OpenClaim := { program := "ythnejajlkijobaa", sum := "a91596d0ad8b91b77d62c1b3fd16de48511a48ecba2c74fbc40b3dafb796bbcf", func := "collator/collatorlaw03.ScoreActs", spec := "scoreActs", inPlace := ["math.Float64frombits", "math.Float64bits"], apart := false, narrowed := true }
def ScoreActsUptoSaid : Prop := scoreActsUptoRow.holds Try.pinned (OpenSpec.upto scoreActsSpec)

end Rows
end Go.Proofs.Ythnejajlkijobaa
