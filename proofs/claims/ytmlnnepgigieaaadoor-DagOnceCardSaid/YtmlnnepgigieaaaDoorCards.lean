/-
  DERIVED. GIVEN WITH THE SEED: THE CARDS: each row of YtmlnnepgigieaaaDoorRows.lean that lists a variable, with what it lists TIED to the program's text (the seventh form; the later family's looks); each row that meets fmt, with fmt's text TOLD by the authors' own Lean function (tested against real Go, not proved from fmt's source: count such statements apart). THE CARD IS WHAT COUNTS. Prove the row's statement (the work); the ties are given (YtmlnnepgigieaaaDoorTie.lean); close each card by the builder's one call (the guide's Derived/Test/ToyasCard.lean, 'card_holds'). Laid BY PROGRAM, IN A SANDBOX (cutbox-door.mjs). By AI agents, Wed Nov 11 2026. No macro, syntax, notation, axiom, sorry.
-/
import Derived.Test.YtmlnnepgigieaaaDoorRows
import GoSem.ClaimSeven
namespace Go.Proofs.YtmlnnepgigieaaaDoor
namespace Rows

/-- THE TIED CARD OF 'collatorlaw06.DagOnce'. -/
def dagOnceCard : Claim7 := { stood := { row := dagOnceRow, standIns := [], harness := (true, "238137e7f881b9274b894cc7e069c856d7ded53245239bb1ff27a92226328f89"), looks := false }, kinds := [], alts := [], laidByText := true, laidKinds := [.data, .data, .data], laidTests := true, laidLooks := .later }
def DagOnceCardSaid : Prop := Claim7.holds Tryd.pinned (.plain (OpenSpec.ofChange dagOnceSpec)) dagOnceCard

/-- THE TIED CARD OF 'collatorlaw06.DagBuckets'. -/
def dagBucketsCard : Claim7 := { stood := { row := dagBucketsRow, standIns := [], harness := (true, "238137e7f881b9274b894cc7e069c856d7ded53245239bb1ff27a92226328f89"), looks := false }, kinds := [], alts := [], laidByText := true, laidKinds := [.data, .data, .data], laidTests := true, laidLooks := .later }
def DagBucketsCardSaid : Prop := Claim7.holds Tryd.pinned (.plain (OpenSpec.ofChange dagBucketsSpec)) dagBucketsCard

/-- THE TIED CARD OF 'collatorlaw06.DagSame'. -/
def dagSameCard : Claim7 := { stood := { row := dagSameRow, standIns := [], harness := (true, "238137e7f881b9274b894cc7e069c856d7ded53245239bb1ff27a92226328f89"), looks := false }, kinds := [], alts := [], laidByText := true, laidKinds := [.data, .data, .data], laidTests := true, laidLooks := .later }
def DagSameCardSaid : Prop := Claim7.holds Tryd.pinned (.plain (OpenSpec.ofChange dagSameSpec)) dagSameCard

/-- THE TIED CARD OF 'collatorlaw06.DagSorts'. -/
def dagSortsCard : Claim7 := { stood := { row := dagSortsRow, standIns := [], harness := (true, "238137e7f881b9274b894cc7e069c856d7ded53245239bb1ff27a92226328f89"), looks := false }, kinds := [], alts := [], laidByText := true, laidKinds := [.data, .data, .data], laidTests := true, laidLooks := .later }
def DagSortsCardSaid : Prop := Claim7.holds Tryd.pinned (.plain (OpenSpec.ofChange dagSortsSpec)) dagSortsCard

/-- THE TIED CARD OF 'collatorlaw06.DagActs'. -/
def dagActsCard : Claim7 := { stood := { row := dagActsRow, standIns := [], harness := (true, "238137e7f881b9274b894cc7e069c856d7ded53245239bb1ff27a92226328f89"), looks := false }, kinds := [], alts := [], laidByText := true, laidKinds := [.data, .data, .data], laidTests := true, laidLooks := .later }
def DagActsCardSaid : Prop := Claim7.holds Tryd.pinned (.plain (OpenSpec.ofChange dagActsSpec)) dagActsCard

/-- THE TIED CARD OF 'collatorlaw07.WalkBeneath'. -/
def walkBeneathCard : Claim7 := { stood := { row := walkBeneathRow, standIns := [], harness := (true, "238137e7f881b9274b894cc7e069c856d7ded53245239bb1ff27a92226328f89"), looks := false }, kinds := [], alts := [], laidByText := true, laidKinds := [.data, .data, .data], laidTests := true, laidLooks := .later }
def WalkBeneathCardSaid : Prop := Claim7.holds Tryd.pinned (.plain (OpenSpec.ofChange walkBeneathSpec)) walkBeneathCard

/-- THE TIED CARD OF 'collatorlaw07.WalkOrders'. -/
def walkOrdersCard : Claim7 := { stood := { row := walkOrdersRow, standIns := [], harness := (true, "238137e7f881b9274b894cc7e069c856d7ded53245239bb1ff27a92226328f89"), looks := false }, kinds := [], alts := [], laidByText := true, laidKinds := [.data, .data, .data], laidTests := true, laidLooks := .later }
def WalkOrdersCardSaid : Prop := Claim7.holds Tryd.pinned (.plain (OpenSpec.ofChange walkOrdersSpec)) walkOrdersCard

/-- THE TIED CARD OF 'collatorlaw07.WalkShares'. -/
def walkSharesCard : Claim7 := { stood := { row := walkSharesRow, standIns := [], harness := (true, "238137e7f881b9274b894cc7e069c856d7ded53245239bb1ff27a92226328f89"), looks := false }, kinds := [], alts := [], laidByText := true, laidKinds := [.data, .data, .data], laidTests := true, laidLooks := .later }
def WalkSharesCardSaid : Prop := Claim7.holds Tryd.pinned (.plain (OpenSpec.ofChange walkSharesSpec)) walkSharesCard

/-- THE TIED CARD OF 'collatorlaw07.WalkSizes'. -/
def walkSizesCard : Claim7 := { stood := { row := walkSizesRow, standIns := [], harness := (true, "238137e7f881b9274b894cc7e069c856d7ded53245239bb1ff27a92226328f89"), looks := false }, kinds := [], alts := [], laidByText := true, laidKinds := [.data, .data, .data], laidTests := true, laidLooks := .later }
def WalkSizesCardSaid : Prop := Claim7.holds Tryd.pinned (.plain (OpenSpec.ofChange walkSizesSpec)) walkSizesCard

/-- THE TIED CARD OF 'collatorlaw07.WalkTwice'. -/
def walkTwiceCard : Claim7 := { stood := { row := walkTwiceRow, standIns := [], harness := (true, "238137e7f881b9274b894cc7e069c856d7ded53245239bb1ff27a92226328f89"), looks := false }, kinds := [], alts := [], laidByText := true, laidKinds := [.data, .data, .data], laidTests := true, laidLooks := .later }
def WalkTwiceCardSaid : Prop := Claim7.holds Tryd.pinned (.plain (OpenSpec.ofChange walkTwiceSpec)) walkTwiceCard

/-- THE SECOND FORM's CARD OF 'collatorlaw06.DagOnce'. -/
def dagOnceUptoCard : Claim7 := { stood := { row := dagOnceUptoRow, standIns := [], harness := (true, "238137e7f881b9274b894cc7e069c856d7ded53245239bb1ff27a92226328f89"), looks := false }, kinds := [], alts := [], laidByText := true, laidKinds := [.data, .data, .data], laidTests := true, laidLooks := .later }
def DagOnceUptoCardSaid : Prop := Claim7.holds Tryd.pinned (.plain (OpenSpec.upto dagOnceSpec)) dagOnceUptoCard

/-- THE SECOND FORM's CARD OF 'collatorlaw06.DagBuckets'. -/
def dagBucketsUptoCard : Claim7 := { stood := { row := dagBucketsUptoRow, standIns := [], harness := (true, "238137e7f881b9274b894cc7e069c856d7ded53245239bb1ff27a92226328f89"), looks := false }, kinds := [], alts := [], laidByText := true, laidKinds := [.data, .data, .data], laidTests := true, laidLooks := .later }
def DagBucketsUptoCardSaid : Prop := Claim7.holds Tryd.pinned (.plain (OpenSpec.upto dagBucketsSpec)) dagBucketsUptoCard

/-- THE SECOND FORM's CARD OF 'collatorlaw06.DagSame'. -/
def dagSameUptoCard : Claim7 := { stood := { row := dagSameUptoRow, standIns := [], harness := (true, "238137e7f881b9274b894cc7e069c856d7ded53245239bb1ff27a92226328f89"), looks := false }, kinds := [], alts := [], laidByText := true, laidKinds := [.data, .data, .data], laidTests := true, laidLooks := .later }
def DagSameUptoCardSaid : Prop := Claim7.holds Tryd.pinned (.plain (OpenSpec.upto dagSameSpec)) dagSameUptoCard

/-- THE SECOND FORM's CARD OF 'collatorlaw06.DagSorts'. -/
def dagSortsUptoCard : Claim7 := { stood := { row := dagSortsUptoRow, standIns := [], harness := (true, "238137e7f881b9274b894cc7e069c856d7ded53245239bb1ff27a92226328f89"), looks := false }, kinds := [], alts := [], laidByText := true, laidKinds := [.data, .data, .data], laidTests := true, laidLooks := .later }
def DagSortsUptoCardSaid : Prop := Claim7.holds Tryd.pinned (.plain (OpenSpec.upto dagSortsSpec)) dagSortsUptoCard

/-- THE SECOND FORM's CARD OF 'collatorlaw06.DagActs'. -/
def dagActsUptoCard : Claim7 := { stood := { row := dagActsUptoRow, standIns := [], harness := (true, "238137e7f881b9274b894cc7e069c856d7ded53245239bb1ff27a92226328f89"), looks := false }, kinds := [], alts := [], laidByText := true, laidKinds := [.data, .data, .data], laidTests := true, laidLooks := .later }
def DagActsUptoCardSaid : Prop := Claim7.holds Tryd.pinned (.plain (OpenSpec.upto dagActsSpec)) dagActsUptoCard

/-- THE SECOND FORM's CARD OF 'collatorlaw07.WalkBeneath'. -/
def walkBeneathUptoCard : Claim7 := { stood := { row := walkBeneathUptoRow, standIns := [], harness := (true, "238137e7f881b9274b894cc7e069c856d7ded53245239bb1ff27a92226328f89"), looks := false }, kinds := [], alts := [], laidByText := true, laidKinds := [.data, .data, .data], laidTests := true, laidLooks := .later }
def WalkBeneathUptoCardSaid : Prop := Claim7.holds Tryd.pinned (.plain (OpenSpec.upto walkBeneathSpec)) walkBeneathUptoCard

/-- THE SECOND FORM's CARD OF 'collatorlaw07.WalkOrders'. -/
def walkOrdersUptoCard : Claim7 := { stood := { row := walkOrdersUptoRow, standIns := [], harness := (true, "238137e7f881b9274b894cc7e069c856d7ded53245239bb1ff27a92226328f89"), looks := false }, kinds := [], alts := [], laidByText := true, laidKinds := [.data, .data, .data], laidTests := true, laidLooks := .later }
def WalkOrdersUptoCardSaid : Prop := Claim7.holds Tryd.pinned (.plain (OpenSpec.upto walkOrdersSpec)) walkOrdersUptoCard

/-- THE SECOND FORM's CARD OF 'collatorlaw07.WalkShares'. -/
def walkSharesUptoCard : Claim7 := { stood := { row := walkSharesUptoRow, standIns := [], harness := (true, "238137e7f881b9274b894cc7e069c856d7ded53245239bb1ff27a92226328f89"), looks := false }, kinds := [], alts := [], laidByText := true, laidKinds := [.data, .data, .data], laidTests := true, laidLooks := .later }
def WalkSharesUptoCardSaid : Prop := Claim7.holds Tryd.pinned (.plain (OpenSpec.upto walkSharesSpec)) walkSharesUptoCard

/-- THE SECOND FORM's CARD OF 'collatorlaw07.WalkSizes'. -/
def walkSizesUptoCard : Claim7 := { stood := { row := walkSizesUptoRow, standIns := [], harness := (true, "238137e7f881b9274b894cc7e069c856d7ded53245239bb1ff27a92226328f89"), looks := false }, kinds := [], alts := [], laidByText := true, laidKinds := [.data, .data, .data], laidTests := true, laidLooks := .later }
def WalkSizesUptoCardSaid : Prop := Claim7.holds Tryd.pinned (.plain (OpenSpec.upto walkSizesSpec)) walkSizesUptoCard

/-- THE SECOND FORM's CARD OF 'collatorlaw07.WalkTwice'. -/
def walkTwiceUptoCard : Claim7 := { stood := { row := walkTwiceUptoRow, standIns := [], harness := (true, "238137e7f881b9274b894cc7e069c856d7ded53245239bb1ff27a92226328f89"), looks := false }, kinds := [], alts := [], laidByText := true, laidKinds := [.data, .data, .data], laidTests := true, laidLooks := .later }
def WalkTwiceUptoCardSaid : Prop := Claim7.holds Tryd.pinned (.plain (OpenSpec.upto walkTwiceSpec)) walkTwiceUptoCard
end Rows
end Go.Proofs.YtmlnnepgigieaaaDoor
