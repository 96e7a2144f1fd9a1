/-
  No cell of these rows narrows 'for every input' (looked for: loops, veiled, ifaces, maps, wideKeys, modest, calm, conditions, laid).
  DERIVED. THE GIVEN ROWS OF THIS SEAT. 11 by the template 'for every input the law returns true; each argument reads behind the call as it read before'; 0 by the template 'total and deterministic' (their statements: YtagpcgnlbgndmaaTotals.lean).
  GIVEN WITH THE SEED: the statements are not yours to turn. If you find one false, say at which input.
  Laid BY PROGRAM, IN A SANDBOX (cutbox-rows.mjs): the forced cells as the released guide's own fill.sh prints them over the translation 60ee7936913b62d3… (all of the seat's roots in one cut). By AI agents, Wed Nov 11 2026. No macro, syntax, notation, axiom, sorry.
-/
import Derived.Test.YtagpcgnlbgndmaaChecked
import GoSem.Claim
import GoSem.ClaimJoined
import GoSem.ClaimMapViews
import Derived.JoinedTies
import Derived.KernelRfl
namespace Go.Proofs.Ytagpcgnlbgndmaa
/- THE CELL 'sum', in the pinned program and in every row, IS THE sha256 OF THE DUMP (.gsa) THAT YtagpcgnlbgndmaaProg.lean LOADS. Nothing in Lean hashes anything: it is a label: what it is worth is what the hold of that sum in a sandbox is worth. -/
noncomputable def Try.pinned : Pinned := { name := "ytagpcgnlbgndmaa", sum := "60ee7936913b62d329fc8fdcec965b0b42000583199a66adb3f2fd91aa9a48ca", checked := Try.checked }
namespace Rows
def none {H : Type} : Left H := { results := [], args := [] }

/-- 'splaw1.PowersReceived': WHATEVER THE INPUT: true; the input reads as it did. -/
def powersReceivedSpec : ChangeSpec := { name := "powersReceived", fn := fun _ => fun
  | [d] => { results := [.lit (.bool true)], args := [d] }
  | _ => none }
def powersReceivedRow : OpenClaim := { program := "ytagpcgnlbgndmaa", sum := "60ee7936913b62d329fc8fdcec965b0b42000583199a66adb3f2fd91aa9a48ca", func := "splicetray/splaw1.PowersReceived", spec := "powersReceived", inPlace := ["internal/bytealg.IndexByteString"], unfollowed := true, recurses := true, plainKeys := false, apart := false }
def PowersReceivedSaid : Prop := powersReceivedRow.holds Try.pinned (OpenSpec.ofChange powersReceivedSpec)

/-- ITS FALSE NEIGHBOUR: 'it returns false'. Refute it at one input. -/
def powersReceivedWrong : ChangeSpec := { name := "powersReceived", fn := fun _ => fun
  | [d] => { results := [.lit (.bool false)], args := [d] }
  | _ => none }
def PowersReceivedWrongFalsely : Prop := powersReceivedRow.holds Try.pinned (OpenSpec.ofChange powersReceivedWrong)

/-- 'splaw1.SplittersBought': WHATEVER THE INPUT: true; the input reads as it did. -/
def splittersBoughtSpec : ChangeSpec := { name := "splittersBought", fn := fun _ => fun
  | [d] => { results := [.lit (.bool true)], args := [d] }
  | _ => none }
def splittersBoughtRow : OpenClaim := { program := "ytagpcgnlbgndmaa", sum := "60ee7936913b62d329fc8fdcec965b0b42000583199a66adb3f2fd91aa9a48ca", func := "splicetray/splaw1.SplittersBought", spec := "splittersBought", inPlace := ["internal/bytealg.abigen_runtime_cmpstring", "internal/bytealg.IndexByteString"], unfollowed := true, recurses := true, plainKeys := false, apart := false }
def SplittersBoughtSaid : Prop := splittersBoughtRow.holds Try.pinned (OpenSpec.ofChange splittersBoughtSpec)

/-- ITS FALSE NEIGHBOUR: 'it returns false'. Refute it at one input. -/
def splittersBoughtWrong : ChangeSpec := { name := "splittersBought", fn := fun _ => fun
  | [d] => { results := [.lit (.bool false)], args := [d] }
  | _ => none }
def SplittersBoughtWrongFalsely : Prop := splittersBoughtRow.holds Try.pinned (OpenSpec.ofChange splittersBoughtWrong)

/-- 'splaw1.PartsSwapped': WHATEVER THE INPUT: true; the input reads as it did. -/
def partsSwappedSpec : ChangeSpec := { name := "partsSwapped", fn := fun _ => fun
  | [d] => { results := [.lit (.bool true)], args := [d] }
  | _ => none }
def partsSwappedRow : OpenClaim := { program := "ytagpcgnlbgndmaa", sum := "60ee7936913b62d329fc8fdcec965b0b42000583199a66adb3f2fd91aa9a48ca", func := "splicetray/splaw1.PartsSwapped", spec := "partsSwapped", plainKeys := false, apart := false }
def PartsSwappedSaid : Prop := partsSwappedRow.holds Try.pinned (OpenSpec.ofChange partsSwappedSpec)

/-- ITS FALSE NEIGHBOUR: 'it returns false'. Refute it at one input. -/
def partsSwappedWrong : ChangeSpec := { name := "partsSwapped", fn := fun _ => fun
  | [d] => { results := [.lit (.bool false)], args := [d] }
  | _ => none }
def PartsSwappedWrongFalsely : Prop := partsSwappedRow.holds Try.pinned (OpenSpec.ofChange partsSwappedWrong)

/-- 'spkeep1.LossesAreOneFromBothEnds': WHATEVER THE INPUT: true; the input reads as it did. -/
def lossesAreOneFromBothEndsSpec : ChangeSpec := { name := "lossesAreOneFromBothEnds", fn := fun _ => fun
  | [d] => { results := [.lit (.bool true)], args := [d] }
  | _ => none }
def lossesAreOneFromBothEndsRow : OpenClaim := { program := "ytagpcgnlbgndmaa", sum := "60ee7936913b62d329fc8fdcec965b0b42000583199a66adb3f2fd91aa9a48ca", func := "splicetray/spkeep1.LossesAreOneFromBothEnds", spec := "lossesAreOneFromBothEnds", inPlace := ["internal/bytealg.abigen_runtime_cmpstring"], unfollowed := true, recurses := true, plainKeys := false, apart := false }
def LossesAreOneFromBothEndsSaid : Prop := lossesAreOneFromBothEndsRow.holds Try.pinned (OpenSpec.ofChange lossesAreOneFromBothEndsSpec)

/-- ITS FALSE NEIGHBOUR: 'it returns false'. Refute it at one input. -/
def lossesAreOneFromBothEndsWrong : ChangeSpec := { name := "lossesAreOneFromBothEnds", fn := fun _ => fun
  | [d] => { results := [.lit (.bool false)], args := [d] }
  | _ => none }
def LossesAreOneFromBothEndsWrongFalsely : Prop := lossesAreOneFromBothEndsRow.holds Try.pinned (OpenSpec.ofChange lossesAreOneFromBothEndsWrong)

/-- 'spkeep1.NoSplitterBelowItself': WHATEVER THE INPUT: true; the input reads as it did. -/
def noSplitterBelowItselfSpec : ChangeSpec := { name := "noSplitterBelowItself", fn := fun _ => fun
  | [d] => { results := [.lit (.bool true)], args := [d] }
  | _ => none }
def noSplitterBelowItselfRow : OpenClaim := { program := "ytagpcgnlbgndmaa", sum := "60ee7936913b62d329fc8fdcec965b0b42000583199a66adb3f2fd91aa9a48ca", func := "splicetray/spkeep1.NoSplitterBelowItself", spec := "noSplitterBelowItself", inPlace := ["internal/bytealg.IndexByteString", "internal/bytealg.abigen_runtime_cmpstring"], unfollowed := true, recurses := true, plainKeys := false, apart := false }
def NoSplitterBelowItselfSaid : Prop := noSplitterBelowItselfRow.holds Try.pinned (OpenSpec.ofChange noSplitterBelowItselfSpec)

/-- ITS FALSE NEIGHBOUR: 'it returns false'. Refute it at one input. -/
def noSplitterBelowItselfWrong : ChangeSpec := { name := "noSplitterBelowItself", fn := fun _ => fun
  | [d] => { results := [.lit (.bool false)], args := [d] }
  | _ => none }
def NoSplitterBelowItselfWrongFalsely : Prop := noSplitterBelowItselfRow.holds Try.pinned (OpenSpec.ofChange noSplitterBelowItselfWrong)

/-- 'spkeep1.AttenuatedFits': WHATEVER THE INPUT: true; the input reads as it did. -/
def attenuatedFitsSpec : ChangeSpec := { name := "attenuatedFits", fn := fun _ => fun
  | [d] => { results := [.lit (.bool true)], args := [d] }
  | _ => none }
def attenuatedFitsRow : OpenClaim := { program := "ytagpcgnlbgndmaa", sum := "60ee7936913b62d329fc8fdcec965b0b42000583199a66adb3f2fd91aa9a48ca", func := "splicetray/spkeep1.AttenuatedFits", spec := "attenuatedFits", inPlace := ["internal/bytealg.abigen_runtime_cmpstring"], unfollowed := true, recurses := true, plainKeys := false, apart := false }
def AttenuatedFitsSaid : Prop := attenuatedFitsRow.holds Try.pinned (OpenSpec.ofChange attenuatedFitsSpec)

/-- ITS FALSE NEIGHBOUR: 'it returns false'. Refute it at one input. -/
def attenuatedFitsWrong : ChangeSpec := { name := "attenuatedFits", fn := fun _ => fun
  | [d] => { results := [.lit (.bool false)], args := [d] }
  | _ => none }
def AttenuatedFitsWrongFalsely : Prop := attenuatedFitsRow.holds Try.pinned (OpenSpec.ofChange attenuatedFitsWrong)

/-- 'spkeep1.BoughtPortsAreEnough': WHATEVER THE INPUT: true; the input reads as it did. -/
def boughtPortsAreEnoughSpec : ChangeSpec := { name := "boughtPortsAreEnough", fn := fun _ => fun
  | [d] => { results := [.lit (.bool true)], args := [d] }
  | _ => none }
def boughtPortsAreEnoughRow : OpenClaim := { program := "ytagpcgnlbgndmaa", sum := "60ee7936913b62d329fc8fdcec965b0b42000583199a66adb3f2fd91aa9a48ca", func := "splicetray/spkeep1.BoughtPortsAreEnough", spec := "boughtPortsAreEnough", inPlace := ["internal/bytealg.abigen_runtime_cmpstring"], unfollowed := true, recurses := true, plainKeys := false, apart := false }
def BoughtPortsAreEnoughSaid : Prop := boughtPortsAreEnoughRow.holds Try.pinned (OpenSpec.ofChange boughtPortsAreEnoughSpec)

/-- ITS FALSE NEIGHBOUR: 'it returns false'. Refute it at one input. -/
def boughtPortsAreEnoughWrong : ChangeSpec := { name := "boughtPortsAreEnough", fn := fun _ => fun
  | [d] => { results := [.lit (.bool false)], args := [d] }
  | _ => none }
def BoughtPortsAreEnoughWrongFalsely : Prop := boughtPortsAreEnoughRow.holds Try.pinned (OpenSpec.ofChange boughtPortsAreEnoughWrong)

/-- 'spkeep1.ReachIsFarthest': WHATEVER THE INPUT: true; the input reads as it did. -/
def reachIsFarthestSpec : ChangeSpec := { name := "reachIsFarthest", fn := fun _ => fun
  | [d] => { results := [.lit (.bool true)], args := [d] }
  | _ => none }
def reachIsFarthestRow : OpenClaim := { program := "ytagpcgnlbgndmaa", sum := "60ee7936913b62d329fc8fdcec965b0b42000583199a66adb3f2fd91aa9a48ca", func := "splicetray/spkeep1.ReachIsFarthest", spec := "reachIsFarthest", inPlace := ["internal/bytealg.abigen_runtime_cmpstring"], unfollowed := true, recurses := true, plainKeys := false, apart := false }
def ReachIsFarthestSaid : Prop := reachIsFarthestRow.holds Try.pinned (OpenSpec.ofChange reachIsFarthestSpec)

/-- ITS FALSE NEIGHBOUR: 'it returns false'. Refute it at one input. -/
def reachIsFarthestWrong : ChangeSpec := { name := "reachIsFarthest", fn := fun _ => fun
  | [d] => { results := [.lit (.bool false)], args := [d] }
  | _ => none }
def ReachIsFarthestWrongFalsely : Prop := reachIsFarthestRow.holds Try.pinned (OpenSpec.ofChange reachIsFarthestWrong)

/-- 'spkeep1.CompactedHasNoIdle': WHATEVER THE INPUT: true; the input reads as it did. -/
def compactedHasNoIdleSpec : ChangeSpec := { name := "compactedHasNoIdle", fn := fun _ => fun
  | [d] => { results := [.lit (.bool true)], args := [d] }
  | _ => none }
def compactedHasNoIdleRow : OpenClaim := { program := "ytagpcgnlbgndmaa", sum := "60ee7936913b62d329fc8fdcec965b0b42000583199a66adb3f2fd91aa9a48ca", func := "splicetray/spkeep1.CompactedHasNoIdle", spec := "compactedHasNoIdle", inPlace := ["internal/bytealg.IndexByteString", "internal/bytealg.abigen_runtime_cmpstring"], unfollowed := true, recurses := true, plainKeys := false, apart := false }
def CompactedHasNoIdleSaid : Prop := compactedHasNoIdleRow.holds Try.pinned (OpenSpec.ofChange compactedHasNoIdleSpec)

/-- ITS FALSE NEIGHBOUR: 'it returns false'. Refute it at one input. -/
def compactedHasNoIdleWrong : ChangeSpec := { name := "compactedHasNoIdle", fn := fun _ => fun
  | [d] => { results := [.lit (.bool false)], args := [d] }
  | _ => none }
def CompactedHasNoIdleWrongFalsely : Prop := compactedHasNoIdleRow.holds Try.pinned (OpenSpec.ofChange compactedHasNoIdleWrong)

/-- 'spkeep1.SwapsFit': WHATEVER THE INPUT: true; the input reads as it did. -/
def swapsFitSpec : ChangeSpec := { name := "swapsFit", fn := fun _ => fun
  | [d] => { results := [.lit (.bool true)], args := [d] }
  | _ => none }
def swapsFitRow : OpenClaim := { program := "ytagpcgnlbgndmaa", sum := "60ee7936913b62d329fc8fdcec965b0b42000583199a66adb3f2fd91aa9a48ca", func := "splicetray/spkeep1.SwapsFit", spec := "swapsFit", inPlace := ["internal/bytealg.abigen_runtime_cmpstring"], unfollowed := true, recurses := true, plainKeys := false, apart := false }
def SwapsFitSaid : Prop := swapsFitRow.holds Try.pinned (OpenSpec.ofChange swapsFitSpec)

/-- ITS FALSE NEIGHBOUR: 'it returns false'. Refute it at one input. -/
def swapsFitWrong : ChangeSpec := { name := "swapsFit", fn := fun _ => fun
  | [d] => { results := [.lit (.bool false)], args := [d] }
  | _ => none }
def SwapsFitWrongFalsely : Prop := swapsFitRow.holds Try.pinned (OpenSpec.ofChange swapsFitWrong)

/-- 'spkeep1.BudgetsStay': WHATEVER THE INPUT: true; the input reads as it did. -/
def budgetsStaySpec : ChangeSpec := { name := "budgetsStay", fn := fun _ => fun
  | [d] => { results := [.lit (.bool true)], args := [d] }
  | _ => none }
def budgetsStayRow : OpenClaim := { program := "ytagpcgnlbgndmaa", sum := "60ee7936913b62d329fc8fdcec965b0b42000583199a66adb3f2fd91aa9a48ca", func := "splicetray/spkeep1.BudgetsStay", spec := "budgetsStay", inPlace := ["internal/bytealg.abigen_runtime_cmpstring"], unfollowed := true, recurses := true, plainKeys := false, apart := false }
def BudgetsStaySaid : Prop := budgetsStayRow.holds Try.pinned (OpenSpec.ofChange budgetsStaySpec)

/-- ITS FALSE NEIGHBOUR: 'it returns false'. Refute it at one input. -/
def budgetsStayWrong : ChangeSpec := { name := "budgetsStay", fn := fun _ => fun
  | [d] => { results := [.lit (.bool false)], args := [d] }
  | _ => none }
def BudgetsStayWrongFalsely : Prop := budgetsStayRow.holds Try.pinned (OpenSpec.ofChange budgetsStayWrong)

/- THE SECOND FORM. 'bulk': how many values and letters a reading holds, each counted each time it is reached (what is shared counts as often as it is met; a slice's spare places count too). A statement '..UptoSaid' is the law's where the arguments, and the package variables that the reading takes, are together of bulk at most 1048576: NARROWER than '..Said'. Prove '..Said' where nothing that the law and all that it calls make is longer than what came in: it says more and counts as full. Else prove '..UptoSaid'. A law counts once. -/
mutual
def uptoBulk {H : Type} : DataW H → Nat
  | .lit (.string bytes) => bytes.length + 1
  | .lit _ => 1
  | .nil => 1
  | .ptr d => uptoBulk d + 1
  | .slice elems spare => uptoBulkAll elems + uptoBulkAll spare + 1
  | .agg parts => uptoBulkAll parts + 1
  | .iface _ d => uptoBulk d + 1
  | .map entries => uptoBulkEntries entries + 1
  | .held _ => 1
def uptoBulkAll {H : Type} : List (DataW H) → Nat
  | [] => 0
  | d :: r => uptoBulk d + uptoBulkAll r
def uptoBulkEntries {H : Type} : List (Lit × DataW H) → Nat
  | [] => 0
  | x :: r => uptoBulkEntry x + uptoBulkEntries r
def uptoBulkEntry {H : Type} : Lit × DataW H → Nat
  | (.string bytes, d) => bytes.length + uptoBulk d + 1
  | (_, d) => uptoBulk d + 1
 end
def uptoSmall : (H : Type) → List (DataW H) → Bool := fun _ ds => decide (uptoBulkAll ds ≤ 1048576)
def OpenSpec.upto (s : _root_.Go.ChangeSpec) : _root_.Go.OpenSpec := { _root_.Go.OpenSpec.ofChange s with cond := some uptoSmall }

/-- 'splaw1.PowersReceived', WHERE WHAT IT READS IS OF BULK AT MOST 1048576: true; the input reads as it did. -/
def powersReceivedUptoRow : OpenClaim := { program := "ytagpcgnlbgndmaa", sum := "60ee7936913b62d329fc8fdcec965b0b42000583199a66adb3f2fd91aa9a48ca", func := "splicetray/splaw1.PowersReceived", spec := "powersReceived", inPlace := ["internal/bytealg.IndexByteString"], unfollowed := true, recurses := true, plainKeys := false, apart := false, narrowed := true }
def PowersReceivedUptoSaid : Prop := powersReceivedUptoRow.holds Try.pinned (OpenSpec.upto powersReceivedSpec)

/-- 'splaw1.SplittersBought', WHERE WHAT IT READS IS OF BULK AT MOST 1048576: true; the input reads as it did. -/
def splittersBoughtUptoRow : OpenClaim := { program := "ytagpcgnlbgndmaa", sum := "60ee7936913b62d329fc8fdcec965b0b42000583199a66adb3f2fd91aa9a48ca", func := "splicetray/splaw1.SplittersBought", spec := "splittersBought", inPlace := ["internal/bytealg.abigen_runtime_cmpstring", "internal/bytealg.IndexByteString"], unfollowed := true, recurses := true, plainKeys := false, apart := false, narrowed := true }
def SplittersBoughtUptoSaid : Prop := splittersBoughtUptoRow.holds Try.pinned (OpenSpec.upto splittersBoughtSpec)

/-- 'splaw1.PartsSwapped', WHERE WHAT IT READS IS OF BULK AT MOST 1048576: true; the input reads as it did. -/
def partsSwappedUptoRow : OpenClaim := { program := "ytagpcgnlbgndmaa", sum := "60ee7936913b62d329fc8fdcec965b0b42000583199a66adb3f2fd91aa9a48ca", func := "splicetray/splaw1.PartsSwapped", spec := "partsSwapped", plainKeys := false, apart := false, narrowed := true }
def PartsSwappedUptoSaid : Prop := partsSwappedUptoRow.holds Try.pinned (OpenSpec.upto partsSwappedSpec)

/-- 'spkeep1.LossesAreOneFromBothEnds', WHERE WHAT IT READS IS OF BULK AT MOST 1048576: true; the input reads as it did. -/
def lossesAreOneFromBothEndsUptoRow : OpenClaim := { program := "ytagpcgnlbgndmaa", sum := "60ee7936913b62d329fc8fdcec965b0b42000583199a66adb3f2fd91aa9a48ca", func := "splicetray/spkeep1.LossesAreOneFromBothEnds", spec := "lossesAreOneFromBothEnds", inPlace := ["internal/bytealg.abigen_runtime_cmpstring"], unfollowed := true, recurses := true, plainKeys := false, apart := false, narrowed := true }
def LossesAreOneFromBothEndsUptoSaid : Prop := lossesAreOneFromBothEndsUptoRow.holds Try.pinned (OpenSpec.upto lossesAreOneFromBothEndsSpec)

/-- 'spkeep1.NoSplitterBelowItself', WHERE WHAT IT READS IS OF BULK AT MOST 1048576: true; the input reads as it did. -/
def noSplitterBelowItselfUptoRow : OpenClaim := { program := "ytagpcgnlbgndmaa", sum := "60ee7936913b62d329fc8fdcec965b0b42000583199a66adb3f2fd91aa9a48ca", func := "splicetray/spkeep1.NoSplitterBelowItself", spec := "noSplitterBelowItself", inPlace := ["internal/bytealg.IndexByteString", "internal/bytealg.abigen_runtime_cmpstring"], unfollowed := true, recurses := true, plainKeys := false, apart := false, narrowed := true }
def NoSplitterBelowItselfUptoSaid : Prop := noSplitterBelowItselfUptoRow.holds Try.pinned (OpenSpec.upto noSplitterBelowItselfSpec)

/-- 'spkeep1.AttenuatedFits', WHERE WHAT IT READS IS OF BULK AT MOST 1048576: true; the input reads as it did. -/
def attenuatedFitsUptoRow : OpenClaim := { program := "ytagpcgnlbgndmaa", sum := "60ee7936913b62d329fc8fdcec965b0b42000583199a66adb3f2fd91aa9a48ca", func := "splicetray/spkeep1.AttenuatedFits", spec := "attenuatedFits", inPlace := ["internal/bytealg.abigen_runtime_cmpstring"], unfollowed := true, recurses := true, plainKeys := false, apart := false, narrowed := true }
def AttenuatedFitsUptoSaid : Prop := attenuatedFitsUptoRow.holds Try.pinned (OpenSpec.upto attenuatedFitsSpec)

/-- 'spkeep1.BoughtPortsAreEnough', WHERE WHAT IT READS IS OF BULK AT MOST 1048576: true; the input reads as it did. -/
def boughtPortsAreEnoughUptoRow : OpenClaim := { program := "ytagpcgnlbgndmaa", sum := "60ee7936913b62d329fc8fdcec965b0b42000583199a66adb3f2fd91aa9a48ca", func := "splicetray/spkeep1.BoughtPortsAreEnough", spec := "boughtPortsAreEnough", inPlace := ["internal/bytealg.abigen_runtime_cmpstring"], unfollowed := true, recurses := true, plainKeys := false, apart := false, narrowed := true }
def BoughtPortsAreEnoughUptoSaid : Prop := boughtPortsAreEnoughUptoRow.holds Try.pinned (OpenSpec.upto boughtPortsAreEnoughSpec)

/-- 'spkeep1.ReachIsFarthest', WHERE WHAT IT READS IS OF BULK AT MOST 1048576: true; the input reads as it did. -/
def reachIsFarthestUptoRow : OpenClaim := { program := "ytagpcgnlbgndmaa", sum := "60ee7936913b62d329fc8fdcec965b0b42000583199a66adb3f2fd91aa9a48ca", func := "splicetray/spkeep1.ReachIsFarthest", spec := "reachIsFarthest", inPlace := ["internal/bytealg.abigen_runtime_cmpstring"], unfollowed := true, recurses := true, plainKeys := false, apart := false, narrowed := true }
def ReachIsFarthestUptoSaid : Prop := reachIsFarthestUptoRow.holds Try.pinned (OpenSpec.upto reachIsFarthestSpec)

/-- 'spkeep1.CompactedHasNoIdle', WHERE WHAT IT READS IS OF BULK AT MOST 1048576: true; the input reads as it did. -/
def compactedHasNoIdleUptoRow : OpenClaim := { program := "ytagpcgnlbgndmaa", sum := "60ee7936913b62d329fc8fdcec965b0b42000583199a66adb3f2fd91aa9a48ca", func := "splicetray/spkeep1.CompactedHasNoIdle", spec := "compactedHasNoIdle", inPlace := ["internal/bytealg.IndexByteString", "internal/bytealg.abigen_runtime_cmpstring"], unfollowed := true, recurses := true, plainKeys := false, apart := false, narrowed := true }
def CompactedHasNoIdleUptoSaid : Prop := compactedHasNoIdleUptoRow.holds Try.pinned (OpenSpec.upto compactedHasNoIdleSpec)

/-- 'spkeep1.SwapsFit', WHERE WHAT IT READS IS OF BULK AT MOST 1048576: true; the input reads as it did. -/
def swapsFitUptoRow : OpenClaim := { program := "ytagpcgnlbgndmaa", sum := "60ee7936913b62d329fc8fdcec965b0b42000583199a66adb3f2fd91aa9a48ca", func := "splicetray/spkeep1.SwapsFit", spec := "swapsFit", inPlace := ["internal/bytealg.abigen_runtime_cmpstring"], unfollowed := true, recurses := true, plainKeys := false, apart := false, narrowed := true }
def SwapsFitUptoSaid : Prop := swapsFitUptoRow.holds Try.pinned (OpenSpec.upto swapsFitSpec)

/-- 'spkeep1.BudgetsStay', WHERE WHAT IT READS IS OF BULK AT MOST 1048576: true; the input reads as it did. -/
def budgetsStayUptoRow : OpenClaim := { program := "ytagpcgnlbgndmaa", sum := "60ee7936913b62d329fc8fdcec965b0b42000583199a66adb3f2fd91aa9a48ca", func := "splicetray/spkeep1.BudgetsStay", spec := "budgetsStay", inPlace := ["internal/bytealg.abigen_runtime_cmpstring"], unfollowed := true, recurses := true, plainKeys := false, apart := false, narrowed := true }
def BudgetsStayUptoSaid : Prop := budgetsStayUptoRow.holds Try.pinned (OpenSpec.upto budgetsStaySpec)

end Rows
end Go.Proofs.Ytagpcgnlbgndmaa
