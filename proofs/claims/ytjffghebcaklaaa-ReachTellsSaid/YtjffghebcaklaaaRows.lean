/-
  No cell of these rows narrows 'for every input' (looked for: loops, veiled, ifaces, maps, wideKeys, modest, calm, conditions, laid).
  DERIVED. THE GIVEN ROWS OF THIS SEAT. 4 by the template 'for every input the law returns true; each argument reads behind the call as it read before'; 0 by the template 'total and deterministic' (their statements: YtjffghebcaklaaaTotals.lean).
  GIVEN WITH THE SEED: the statements are not yours to turn. If you find one false, say at which input.
  Laid BY PROGRAM, IN A SANDBOX (cutbox-rows.mjs): the forced cells as the released guide's own fill.sh prints them over the translation 0812fe384b360e3c… (all of the seat's roots in one cut). By AI agents, Wed Nov 11 2026. No macro, syntax, notation, axiom, sorry.
-/
import Derived.Test.YtjffghebcaklaaaChecked
import GoSem.Claim
import GoSem.ClaimJoined
import GoSem.ClaimMapViews
import Derived.JoinedTies
import Derived.KernelRfl
namespace Go.Proofs.Ytjffghebcaklaaa
/- THE CELL 'sum', in the pinned program and in every row, IS THE sha256 OF THE DUMP (.gsa) THAT YtjffghebcaklaaaProg.lean LOADS. Nothing in Lean hashes anything: it is a label: what it is worth is what the hold of that sum in a sandbox is worth. -/
noncomputable def Try.pinned : Pinned := { name := "ytjffghebcaklaaa", sum := "0812fe384b360e3c2aeb3abe4ec2f70b253230f1ae85edc8781dbe1872d4e533", checked := Try.checked }
namespace Rows
def none {H : Type} : Left H := { results := [], args := [] }

/-- 'cortegelaw16.ReachCloses': WHATEVER THE INPUT: true; the input reads as it did. -/
def reachClosesSpec : ChangeSpec := { name := "reachCloses", fn := fun _ => fun
  | [d1, d2] => { results := [.lit (.bool true)], args := [d1, d2] }
  | _ => none }
def reachClosesRow : OpenClaim := { program := "ytjffghebcaklaaa", sum := "0812fe384b360e3c2aeb3abe4ec2f70b253230f1ae85edc8781dbe1872d4e533", func := "cortege/cortegelaw16.ReachCloses", spec := "reachCloses", inPlace := ["math.Float64frombits", "math.Float64bits"], unfollowed := true, recurses := true, plainKeys := false, apart := false }
def ReachClosesSaid : Prop := reachClosesRow.holds Try.pinned (OpenSpec.ofChange reachClosesSpec)

/-- ITS FALSE NEIGHBOUR: 'it returns false'. Refute it at one input. -/
def reachClosesWrong : ChangeSpec := { name := "reachCloses", fn := fun _ => fun
  | [d1, d2] => { results := [.lit (.bool false)], args := [d1, d2] }
  | _ => none }
def ReachClosesWrongFalsely : Prop := reachClosesRow.holds Try.pinned (OpenSpec.ofChange reachClosesWrong)

/-- 'cortegelaw16.ReachTells': WHATEVER THE INPUT: true; the input reads as it did. -/
def reachTellsSpec : ChangeSpec := { name := "reachTells", fn := fun _ => fun
  | [d1, d2, d3] => { results := [.lit (.bool true)], args := [d1, d2, d3] }
  | _ => none }
def reachTellsRow : OpenClaim := { program := "ytjffghebcaklaaa", sum := "0812fe384b360e3c2aeb3abe4ec2f70b253230f1ae85edc8781dbe1872d4e533", func := "cortege/cortegelaw16.ReachTells", spec := "reachTells", inPlace := ["math.Float64frombits", "math.Float64bits"], unfollowed := true, recurses := true, plainKeys := false, apart := false }
def ReachTellsSaid : Prop := reachTellsRow.holds Try.pinned (OpenSpec.ofChange reachTellsSpec)

/-- ITS FALSE NEIGHBOUR: 'it returns false'. Refute it at one input. -/
def reachTellsWrong : ChangeSpec := { name := "reachTells", fn := fun _ => fun
  | [d1, d2, d3] => { results := [.lit (.bool false)], args := [d1, d2, d3] }
  | _ => none }
def ReachTellsWrongFalsely : Prop := reachTellsRow.holds Try.pinned (OpenSpec.ofChange reachTellsWrong)

/-- 'cortegelaw21.VertexCompacts': WHATEVER THE INPUT: true; the input reads as it did. -/
def vertexCompactsSpec : ChangeSpec := { name := "vertexCompacts", fn := fun _ => fun
  | [d1, d2] => { results := [.lit (.bool true)], args := [d1, d2] }
  | _ => none }
def vertexCompactsRow : OpenClaim := { program := "ytjffghebcaklaaa", sum := "0812fe384b360e3c2aeb3abe4ec2f70b253230f1ae85edc8781dbe1872d4e533", func := "cortege/cortegelaw21.VertexCompacts", spec := "vertexCompacts", inPlace := ["math.Float64frombits", "math.Float64bits"], unfollowed := true, recurses := true, plainKeys := false, apart := false }
def VertexCompactsSaid : Prop := vertexCompactsRow.holds Try.pinned (OpenSpec.ofChange vertexCompactsSpec)

/-- ITS FALSE NEIGHBOUR: 'it returns false'. Refute it at one input. -/
def vertexCompactsWrong : ChangeSpec := { name := "vertexCompacts", fn := fun _ => fun
  | [d1, d2] => { results := [.lit (.bool false)], args := [d1, d2] }
  | _ => none }
def VertexCompactsWrongFalsely : Prop := vertexCompactsRow.holds Try.pinned (OpenSpec.ofChange vertexCompactsWrong)

/-- 'cortegelaw21.VertexActs': WHATEVER THE INPUT: true; the input reads as it did. -/
def vertexActsSpec : ChangeSpec := { name := "vertexActs", fn := fun _ => fun
  | [d1, d2] => { results := [.lit (.bool true)], args := [d1, d2] }
  | _ => none }
def vertexActsRow : OpenClaim := { program := "ytjffghebcaklaaa", sum := "0812fe384b360e3c2aeb3abe4ec2f70b253230f1ae85edc8781dbe1872d4e533", func := "cortege/cortegelaw21.VertexActs", spec := "vertexActs", inPlace := ["math.Float64frombits", "math.Float64bits"], unfollowed := true, recurses := true, plainKeys := false, apart := false }
def VertexActsSaid : Prop := vertexActsRow.holds Try.pinned (OpenSpec.ofChange vertexActsSpec)

/-- ITS FALSE NEIGHBOUR: 'it returns false'. Refute it at one input. -/
def vertexActsWrong : ChangeSpec := { name := "vertexActs", fn := fun _ => fun
  | [d1, d2] => { results := [.lit (.bool false)], args := [d1, d2] }
  | _ => none }
def VertexActsWrongFalsely : Prop := vertexActsRow.holds Try.pinned (OpenSpec.ofChange vertexActsWrong)

/- THE SECOND FORM. 'bulk': how many values and letters a reading holds, each counted each time it is reached (what is shared counts as often as it is met; a slice's spare places count too). A statement '..UptoSaid' is the law's where the arguments, and the package variables that the reading takes, are together of bulk at most 1048576: NARROWER than '..Said'. Prove '..Said' where nothing that the law and all that it calls make is longer than what came in: it says more and counts as full. Else prove '..UptoSaid'. A law counts once. -/
mutual
def uptoBulk {H : Type} : DataW H → Nat
  | .lit (.string bytes) => bytes.length + 1
  | .lit _ => 1
  | .nil => 1
  | .ptr d => uptoBulk d + 1
  | .slice elems spare => uptoBulkAll elems + uptoBulkAll spare + 1
  | .agg parts => uptoBulkAll parts + 1
  | .iface _ d => uptoBulk d + 1
  | .map entries => uptoBulkEntries entries + 1
  | .held _ => 1
def uptoBulkAll {H : Type} : List (DataW H) → Nat
  | [] => 0
  | d :: r => uptoBulk d + uptoBulkAll r
def uptoBulkEntries {H : Type} : List (Lit × DataW H) → Nat
  | [] => 0
  | x :: r => uptoBulkEntry x + uptoBulkEntries r
def uptoBulkEntry {H : Type} : Lit × DataW H → Nat
  | (.string bytes, d) => bytes.length + uptoBulk d + 1
  | (_, d) => uptoBulk d + 1
 end
def uptoSmall : (H : Type) → List (DataW H) → Bool := fun _ ds => decide (uptoBulkAll ds ≤ 1048576)
def OpenSpec.upto (s : _root_.Go.ChangeSpec) : _root_.Go.OpenSpec := { _root_.Go.OpenSpec.ofChange s with cond := some uptoSmall }

/-- 'cortegelaw16.ReachCloses', WHERE WHAT IT READS IS OF BULK AT MOST 1048576: true; the input reads as it did. -/
def reachClosesUptoRow : OpenClaim := { program := "ytjffghebcaklaaa", sum := "0812fe384b360e3c2aeb3abe4ec2f70b253230f1ae85edc8781dbe1872d4e533", func := "cortege/cortegelaw16.ReachCloses", spec := "reachCloses", inPlace := ["math.Float64frombits", "math.Float64bits"], unfollowed := true, recurses := true, plainKeys := false, apart := false, narrowed := true }
def ReachClosesUptoSaid : Prop := reachClosesUptoRow.holds Try.pinned (OpenSpec.upto reachClosesSpec)

/-- 'cortegelaw16.ReachTells', WHERE WHAT IT READS IS OF BULK AT MOST 1048576: true; the input reads as it did. -/
def reachTellsUptoRow : OpenClaim := { program := "ytjffghebcaklaaa", sum := "0812fe384b360e3c2aeb3abe4ec2f70b253230f1ae85edc8781dbe1872d4e533", func := "cortege/cortegelaw16.ReachTells", spec := "reachTells", inPlace := ["math.Float64frombits", "math.Float64bits"], unfollowed := true, recurses := true, plainKeys := false, apart := false, narrowed := true }
def ReachTellsUptoSaid : Prop := reachTellsUptoRow.holds Try.pinned (OpenSpec.upto reachTellsSpec)

/-- 'cortegelaw21.VertexCompacts', WHERE WHAT IT READS IS OF BULK AT MOST 1048576: true; the input reads as it did. -/
def vertexCompactsUptoRow : OpenClaim := { program := "ytjffghebcaklaaa", sum := "0812fe384b360e3c2aeb3abe4ec2f70b253230f1ae85edc8781dbe1872d4e533", func := "cortege/cortegelaw21.VertexCompacts", spec := "vertexCompacts", inPlace := ["math.Float64frombits", "math.Float64bits"], unfollowed := true, recurses := true, plainKeys := false, apart := false, narrowed := true }
def VertexCompactsUptoSaid : Prop := vertexCompactsUptoRow.holds Try.pinned (OpenSpec.upto vertexCompactsSpec)

/-- 'cortegelaw21.VertexActs', WHERE WHAT IT READS IS OF BULK AT MOST 1048576: true; the input reads as it did. -/
def vertexActsUptoRow : OpenClaim := { program := "ytjffghebcaklaaa", sum := "0812fe384b360e3c2aeb3abe4ec2f70b253230f1ae85edc8781dbe1872d4e533", func := "cortege/cortegelaw21.VertexActs", spec := "vertexActs", inPlace := ["math.Float64frombits", "math.Float64bits"], unfollowed := true, recurses := true, plainKeys := false, apart := false, narrowed := true }
def VertexActsUptoSaid : Prop := vertexActsUptoRow.holds Try.pinned (OpenSpec.upto vertexActsSpec)

end Rows
end Go.Proofs.Ytjffghebcaklaaa
