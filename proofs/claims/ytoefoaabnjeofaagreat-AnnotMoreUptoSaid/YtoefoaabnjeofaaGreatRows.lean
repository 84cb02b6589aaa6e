/-
  No cell of these rows narrows 'for every input' (looked for: loops, veiled, ifaces, maps, wideKeys, modest, calm, conditions, laid).
  DERIVED. THE GIVEN ROWS OF THIS SEAT. 12 by the template 'for every input the law returns true; each argument reads behind the call as it read before'; 0 by the template 'total and deterministic' (their statements: YtoefoaabnjeofaaGreatTotals.lean).
  GIVEN WITH THE SEED: the statements are not yours to turn. If you find one false, say at which input.
  Laid BY PROGRAM, IN A SANDBOX (cutbox-rows.mjs): the forced cells as the released guide's own fill.sh prints them over the translation 5ee54247fe79690c… (all of the seat's roots in one cut). By AI agents, Wed Nov 11 2026. No macro, syntax, notation, axiom, sorry.
-/
import Derived.Test.YtoefoaabnjeofaaGreatChecked
import GoSem.Claim
import GoSem.ClaimJoined
import GoSem.ClaimMapViews
import Derived.JoinedTies
import Derived.KernelRfl
namespace Go.Proofs.YtoefoaabnjeofaaGreat
/- THE CELL 'sum', in the pinned program and in every row, IS THE sha256 OF THE DUMP (.gsa) THAT YtoefoaabnjeofaaGreatProg.lean LOADS. Nothing in Lean hashes anything: it is a label: what it is worth is what the hold of that sum in a sandbox is worth. -/
noncomputable def Tryz.pinned : Pinned := { name := "ytoefoaabnjeofaagreat", sum := "5ee54247fe79690cb8efab312df9b8d3b42cc8c8db82252bcae552b919be9322", checked := Tryz.checked }
namespace Rows
def none {H : Type} : Left H := { results := [], args := [] }

/-- 'skolemlaw23.AnnotStrat': WHATEVER THE INPUT: true; the input reads as it did. -/
def annotStratSpec : ChangeSpec := { name := "annotStrat", fn := fun _ => fun
  | [d1, d2, d3] => { results := [.lit (.bool true)], args := [d1, d2, d3] }
  | _ => none }
def annotStratRow : OpenClaim := { program := "ytoefoaabnjeofaagreat", sum := "5ee54247fe79690cb8efab312df9b8d3b42cc8c8db82252bcae552b919be9322", func := "skolem/skolemlaw23.AnnotStrat", spec := "annotStrat", unfollowed := true, recurses := true, plainKeys := false, apart := false }
def AnnotStratSaid : Prop := annotStratRow.holds Tryz.pinned (OpenSpec.ofChange annotStratSpec)

/-- ITS FALSE NEIGHBOUR: 'it returns false'. Refute it at one input. -/
def annotStratWrong : ChangeSpec := { name := "annotStrat", fn := fun _ => fun
  | [d1, d2, d3] => { results := [.lit (.bool false)], args := [d1, d2, d3] }
  | _ => none }
def AnnotStratWrongFalsely : Prop := annotStratRow.holds Tryz.pinned (OpenSpec.ofChange annotStratWrong)

/-- 'skolemlaw23.AnnotMore': WHATEVER THE INPUT: true; the input reads as it did. -/
def annotMoreSpec : ChangeSpec := { name := "annotMore", fn := fun _ => fun
  | [d1, d2, d3] => { results := [.lit (.bool true)], args := [d1, d2, d3] }
  | _ => none }
def annotMoreRow : OpenClaim := { program := "ytoefoaabnjeofaagreat", sum := "5ee54247fe79690cb8efab312df9b8d3b42cc8c8db82252bcae552b919be9322", func := "skolem/skolemlaw23.AnnotMore", spec := "annotMore", unfollowed := true, recurses := true, plainKeys := false, apart := false }
def AnnotMoreSaid : Prop := annotMoreRow.holds Tryz.pinned (OpenSpec.ofChange annotMoreSpec)

/-- ITS FALSE NEIGHBOUR: 'it returns false'. Refute it at one input. -/
def annotMoreWrong : ChangeSpec := { name := "annotMore", fn := fun _ => fun
  | [d1, d2, d3] => { results := [.lit (.bool false)], args := [d1, d2, d3] }
  | _ => none }
def AnnotMoreWrongFalsely : Prop := annotMoreRow.holds Tryz.pinned (OpenSpec.ofChange annotMoreWrong)

/-- 'skolemlaw23.AnnotModel': WHATEVER THE INPUT: true; the input reads as it did. -/
def annotModelSpec : ChangeSpec := { name := "annotModel", fn := fun _ => fun
  | [d1, d2] => { results := [.lit (.bool true)], args := [d1, d2] }
  | _ => none }
def annotModelRow : OpenClaim := { program := "ytoefoaabnjeofaagreat", sum := "5ee54247fe79690cb8efab312df9b8d3b42cc8c8db82252bcae552b919be9322", func := "skolem/skolemlaw23.AnnotModel", spec := "annotModel", unfollowed := true, recurses := true, plainKeys := false, apart := false }
def AnnotModelSaid : Prop := annotModelRow.holds Tryz.pinned (OpenSpec.ofChange annotModelSpec)

/-- ITS FALSE NEIGHBOUR: 'it returns false'. Refute it at one input. -/
def annotModelWrong : ChangeSpec := { name := "annotModel", fn := fun _ => fun
  | [d1, d2] => { results := [.lit (.bool false)], args := [d1, d2] }
  | _ => none }
def AnnotModelWrongFalsely : Prop := annotModelRow.holds Tryz.pinned (OpenSpec.ofChange annotModelWrong)

/-- 'skolemlaw33.TwolevCovers': WHATEVER THE INPUT: true; the input reads as it did. -/
def twolevCoversSpec : ChangeSpec := { name := "twolevCovers", fn := fun _ => fun
  | [d1, d2] => { results := [.lit (.bool true)], args := [d1, d2] }
  | _ => none }
def twolevCoversRow : OpenClaim := { program := "ytoefoaabnjeofaagreat", sum := "5ee54247fe79690cb8efab312df9b8d3b42cc8c8db82252bcae552b919be9322", func := "skolem/skolemlaw33.TwolevCovers", spec := "twolevCovers", unfollowed := true, recurses := true, plainKeys := false, apart := false }
def TwolevCoversSaid : Prop := twolevCoversRow.holds Tryz.pinned (OpenSpec.ofChange twolevCoversSpec)

/-- ITS FALSE NEIGHBOUR: 'it returns false'. Refute it at one input. -/
def twolevCoversWrong : ChangeSpec := { name := "twolevCovers", fn := fun _ => fun
  | [d1, d2] => { results := [.lit (.bool false)], args := [d1, d2] }
  | _ => none }
def TwolevCoversWrongFalsely : Prop := twolevCoversRow.holds Tryz.pinned (OpenSpec.ofChange twolevCoversWrong)

/-- 'skolemlaw33.TwolevMin': WHATEVER THE INPUT: true; the input reads as it did. -/
def twolevMinSpec : ChangeSpec := { name := "twolevMin", fn := fun _ => fun
  | [d1, d2, d3] => { results := [.lit (.bool true)], args := [d1, d2, d3] }
  | _ => none }
def twolevMinRow : OpenClaim := { program := "ytoefoaabnjeofaagreat", sum := "5ee54247fe79690cb8efab312df9b8d3b42cc8c8db82252bcae552b919be9322", func := "skolem/skolemlaw33.TwolevMin", spec := "twolevMin", unfollowed := true, recurses := true, plainKeys := false, apart := false }
def TwolevMinSaid : Prop := twolevMinRow.holds Tryz.pinned (OpenSpec.ofChange twolevMinSpec)

/-- ITS FALSE NEIGHBOUR: 'it returns false'. Refute it at one input. -/
def twolevMinWrong : ChangeSpec := { name := "twolevMin", fn := fun _ => fun
  | [d1, d2, d3] => { results := [.lit (.bool false)], args := [d1, d2, d3] }
  | _ => none }
def TwolevMinWrongFalsely : Prop := twolevMinRow.holds Tryz.pinned (OpenSpec.ofChange twolevMinWrong)

/-- 'skolemlaw33.TwolevMore': WHATEVER THE INPUT: true; the input reads as it did. -/
def twolevMoreSpec : ChangeSpec := { name := "twolevMore", fn := fun _ => fun
  | [d1, d2] => { results := [.lit (.bool true)], args := [d1, d2] }
  | _ => none }
def twolevMoreRow : OpenClaim := { program := "ytoefoaabnjeofaagreat", sum := "5ee54247fe79690cb8efab312df9b8d3b42cc8c8db82252bcae552b919be9322", func := "skolem/skolemlaw33.TwolevMore", spec := "twolevMore", unfollowed := true, recurses := true, plainKeys := false, apart := false }
def TwolevMoreSaid : Prop := twolevMoreRow.holds Tryz.pinned (OpenSpec.ofChange twolevMoreSpec)

/-- ITS FALSE NEIGHBOUR: 'it returns false'. Refute it at one input. -/
def twolevMoreWrong : ChangeSpec := { name := "twolevMore", fn := fun _ => fun
  | [d1, d2] => { results := [.lit (.bool false)], args := [d1, d2] }
  | _ => none }
def TwolevMoreWrongFalsely : Prop := twolevMoreRow.holds Tryz.pinned (OpenSpec.ofChange twolevMoreWrong)

/-- 'skolemlaw33.TwolevSelects': WHATEVER THE INPUT: true; the input reads as it did. -/
def twolevSelectsSpec : ChangeSpec := { name := "twolevSelects", fn := fun _ => fun
  | [d1, d2, d3, d4] => { results := [.lit (.bool true)], args := [d1, d2, d3, d4] }
  | _ => none }
def twolevSelectsRow : OpenClaim := { program := "ytoefoaabnjeofaagreat", sum := "5ee54247fe79690cb8efab312df9b8d3b42cc8c8db82252bcae552b919be9322", func := "skolem/skolemlaw33.TwolevSelects", spec := "twolevSelects", unfollowed := true, recurses := true, plainKeys := false, apart := false }
def TwolevSelectsSaid : Prop := twolevSelectsRow.holds Tryz.pinned (OpenSpec.ofChange twolevSelectsSpec)

/-- ITS FALSE NEIGHBOUR: 'it returns false'. Refute it at one input. -/
def twolevSelectsWrong : ChangeSpec := { name := "twolevSelects", fn := fun _ => fun
  | [d1, d2, d3, d4] => { results := [.lit (.bool false)], args := [d1, d2, d3, d4] }
  | _ => none }
def TwolevSelectsWrongFalsely : Prop := twolevSelectsRow.holds Tryz.pinned (OpenSpec.ofChange twolevSelectsWrong)

/-- 'skolemlaw33.TwolevBack': WHATEVER THE INPUT: true; the input reads as it did. -/
def twolevBackSpec : ChangeSpec := { name := "twolevBack", fn := fun _ => fun
  | [d1, d2] => { results := [.lit (.bool true)], args := [d1, d2] }
  | _ => none }
def twolevBackRow : OpenClaim := { program := "ytoefoaabnjeofaagreat", sum := "5ee54247fe79690cb8efab312df9b8d3b42cc8c8db82252bcae552b919be9322", func := "skolem/skolemlaw33.TwolevBack", spec := "twolevBack", unfollowed := true, recurses := true, plainKeys := false, apart := false }
def TwolevBackSaid : Prop := twolevBackRow.holds Tryz.pinned (OpenSpec.ofChange twolevBackSpec)

/-- ITS FALSE NEIGHBOUR: 'it returns false'. Refute it at one input. -/
def twolevBackWrong : ChangeSpec := { name := "twolevBack", fn := fun _ => fun
  | [d1, d2] => { results := [.lit (.bool false)], args := [d1, d2] }
  | _ => none }
def TwolevBackWrongFalsely : Prop := twolevBackRow.holds Tryz.pinned (OpenSpec.ofChange twolevBackWrong)

/-- 'skolemlaw23.AnnotSound': WHATEVER THE INPUT: true; the input reads as it did. -/
def annotSoundSpec : ChangeSpec := { name := "annotSound", fn := fun _ => fun
  | [d1, d2] => { results := [.lit (.bool true)], args := [d1, d2] }
  | _ => none }
def annotSoundRow : OpenClaim := { program := "ytoefoaabnjeofaagreat", sum := "5ee54247fe79690cb8efab312df9b8d3b42cc8c8db82252bcae552b919be9322", func := "skolem/skolemlaw23.AnnotSound", spec := "annotSound", unfollowed := true, recurses := true, plainKeys := false, apart := false }
def AnnotSoundSaid : Prop := annotSoundRow.holds Tryz.pinned (OpenSpec.ofChange annotSoundSpec)

/-- ITS FALSE NEIGHBOUR: 'it returns false'. Refute it at one input. -/
def annotSoundWrong : ChangeSpec := { name := "annotSound", fn := fun _ => fun
  | [d1, d2] => { results := [.lit (.bool false)], args := [d1, d2] }
  | _ => none }
def AnnotSoundWrongFalsely : Prop := annotSoundRow.holds Tryz.pinned (OpenSpec.ofChange annotSoundWrong)

/-- 'skolemlaw29.DefineCopies': WHATEVER THE INPUT: true; the input reads as it did. -/
def defineCopiesSpec : ChangeSpec := { name := "defineCopies", fn := fun _ => fun
  | [d1, d2, d3] => { results := [.lit (.bool true)], args := [d1, d2, d3] }
  | _ => none }
def defineCopiesRow : OpenClaim := { program := "ytoefoaabnjeofaagreat", sum := "5ee54247fe79690cb8efab312df9b8d3b42cc8c8db82252bcae552b919be9322", func := "skolem/skolemlaw29.DefineCopies", spec := "defineCopies", unfollowed := true, recurses := true, plainKeys := false, apart := false }
def DefineCopiesSaid : Prop := defineCopiesRow.holds Tryz.pinned (OpenSpec.ofChange defineCopiesSpec)

/-- ITS FALSE NEIGHBOUR: 'it returns false'. Refute it at one input. -/
def defineCopiesWrong : ChangeSpec := { name := "defineCopies", fn := fun _ => fun
  | [d1, d2, d3] => { results := [.lit (.bool false)], args := [d1, d2, d3] }
  | _ => none }
def DefineCopiesWrongFalsely : Prop := defineCopiesRow.holds Tryz.pinned (OpenSpec.ofChange defineCopiesWrong)

/-- 'skolemlaw29.DefineOver': WHATEVER THE INPUT: true; the input reads as it did. -/
def defineOverSpec : ChangeSpec := { name := "defineOver", fn := fun _ => fun
  | [d1, d2, d3, d4] => { results := [.lit (.bool true)], args := [d1, d2, d3, d4] }
  | _ => none }
def defineOverRow : OpenClaim := { program := "ytoefoaabnjeofaagreat", sum := "5ee54247fe79690cb8efab312df9b8d3b42cc8c8db82252bcae552b919be9322", func := "skolem/skolemlaw29.DefineOver", spec := "defineOver", unfollowed := true, recurses := true, plainKeys := false, apart := false }
def DefineOverSaid : Prop := defineOverRow.holds Tryz.pinned (OpenSpec.ofChange defineOverSpec)

/-- ITS FALSE NEIGHBOUR: 'it returns false'. Refute it at one input. -/
def defineOverWrong : ChangeSpec := { name := "defineOver", fn := fun _ => fun
  | [d1, d2, d3, d4] => { results := [.lit (.bool false)], args := [d1, d2, d3, d4] }
  | _ => none }
def DefineOverWrongFalsely : Prop := defineOverRow.holds Tryz.pinned (OpenSpec.ofChange defineOverWrong)

/-- 'skolemlaw25.SweepEquals': WHATEVER THE INPUT: true; the input reads as it did. -/
def sweepEqualsSpec : ChangeSpec := { name := "sweepEquals", fn := fun _ => fun
  | [d1, d2, d3, d4] => { results := [.lit (.bool true)], args := [d1, d2, d3, d4] }
  | _ => none }
def sweepEqualsRow : OpenClaim := { program := "ytoefoaabnjeofaagreat", sum := "5ee54247fe79690cb8efab312df9b8d3b42cc8c8db82252bcae552b919be9322", func := "skolem/skolemlaw25.SweepEquals", spec := "sweepEquals", unfollowed := true, recurses := true, plainKeys := false, apart := false }
def SweepEqualsSaid : Prop := sweepEqualsRow.holds Tryz.pinned (OpenSpec.ofChange sweepEqualsSpec)

/-- ITS FALSE NEIGHBOUR: 'it returns false'. Refute it at one input. -/
def sweepEqualsWrong : ChangeSpec := { name := "sweepEquals", fn := fun _ => fun
  | [d1, d2, d3, d4] => { results := [.lit (.bool false)], args := [d1, d2, d3, d4] }
  | _ => none }
def SweepEqualsWrongFalsely : Prop := sweepEqualsRow.holds Tryz.pinned (OpenSpec.ofChange sweepEqualsWrong)

/- THE SECOND FORM. 'bulk': how many values and letters a reading holds, each counted each time it is reached (what is shared counts as often as it is met; a slice's spare places count too). A statement '..UptoSaid' is the law's where the arguments, and the package variables that the reading takes, are together of bulk at most 1048576: NARROWER than '..Said'. Prove '..Said' where nothing that the law and all that it calls make is longer than what came in: it says more and counts as full. Else prove '..UptoSaid'. A law counts once. -/
mutual
def uptoBulk {H : Type} : DataW H → Nat
  | .lit (.string bytes) => bytes.length + 1
  | .lit _ => 1
  | .nil => 1
  | .ptr d => uptoBulk d + 1
  | .slice elems spare => uptoBulkAll elems + uptoBulkAll spare + 1
  | .agg parts => uptoBulkAll parts + 1
  | .iface _ d => uptoBulk d + 1
  | .map entries => uptoBulkEntries entries + 1
  | .held _ => 1
def uptoBulkAll {H : Type} : List (DataW H) → Nat
  | [] => 0
  | d :: r => uptoBulk d + uptoBulkAll r
def uptoBulkEntries {H : Type} : List (Lit × DataW H) → Nat
  | [] => 0
  | x :: r => uptoBulkEntry x + uptoBulkEntries r
def uptoBulkEntry {H : Type} : Lit × DataW H → Nat
  | (.string bytes, d) => bytes.length + uptoBulk d + 1
  | (_, d) => uptoBulk d + 1
 end
def uptoSmall : (H : Type) → List (DataW H) → Bool := fun _ ds => decide (uptoBulkAll ds ≤ 1048576)
def OpenSpec.upto (s : _root_.Go.ChangeSpec) : _root_.Go.OpenSpec := { _root_.Go.OpenSpec.ofChange s with cond := some uptoSmall }

/-- 'skolemlaw23.AnnotStrat', WHERE WHAT IT READS IS OF BULK AT MOST 1048576: true; the input reads as it did. -/
def annotStratUptoRow : OpenClaim := { program := "ytoefoaabnjeofaagreat", sum := "5ee54247fe79690cb8efab312df9b8d3b42cc8c8db82252bcae552b919be9322", func := "skolem/skolemlaw23.AnnotStrat", spec := "annotStrat", unfollowed := true, recurses := true, plainKeys := false, apart := false, narrowed := true }
def AnnotStratUptoSaid : Prop := annotStratUptoRow.holds Tryz.pinned (OpenSpec.upto annotStratSpec)

/-- 'skolemlaw23.AnnotMore', WHERE WHAT IT READS IS OF BULK AT MOST 1048576: true; the input reads as it did. -/
def annotMoreUptoRow : OpenClaim := { program := "ytoefoaabnjeofaagreat", sum := "5ee54247fe79690cb8efab312df9b8d3b42cc8c8db82252bcae552b919be9322", func := "skolem/skolemlaw23.AnnotMore", spec := "annotMore", unfollowed := true, recurses := true, plainKeys := false, apart := false, narrowed := true }
def AnnotMoreUptoSaid : Prop := annotMoreUptoRow.holds Tryz.pinned (OpenSpec.upto annotMoreSpec)

/-- 'skolemlaw23.AnnotModel', WHERE WHAT IT READS IS OF BULK AT MOST 1048576: true; the input reads as it did. -/
def annotModelUptoRow : OpenClaim := { program := "ytoefoaabnjeofaagreat", sum := "5ee54247fe79690cb8efab312df9b8d3b42cc8c8db82252bcae552b919be9322", func := "skolem/skolemlaw23.AnnotModel", spec := "annotModel", unfollowed := true, recurses := true, plainKeys := false, apart := false, narrowed := true }
def AnnotModelUptoSaid : Prop := annotModelUptoRow.holds Tryz.pinned (OpenSpec.upto annotModelSpec)

/-- 'skolemlaw33.TwolevCovers', WHERE WHAT IT READS IS OF BULK AT MOST 1048576: true; the input reads as it did. -/
def twolevCoversUptoRow : OpenClaim := { program := "ytoefoaabnjeofaagreat", sum := "5ee54247fe79690cb8efab312df9b8d3b42cc8c8db82252bcae552b919be9322", func := "skolem/skolemlaw33.TwolevCovers", spec := "twolevCovers", unfollowed := true, recurses := true, plainKeys := false, apart := false, narrowed := true }
def TwolevCoversUptoSaid : Prop := twolevCoversUptoRow.holds Tryz.pinned (OpenSpec.upto twolevCoversSpec)

/-- 'skolemlaw33.TwolevMin', WHERE WHAT IT READS IS OF BULK AT MOST 1048576: true; the input reads as it did. -/
def twolevMinUptoRow : OpenClaim := { program := "ytoefoaabnjeofaagreat", sum := "5ee54247fe79690cb8efab312df9b8d3b42cc8c8db82252bcae552b919be9322", func := "skolem/skolemlaw33.TwolevMin", spec := "twolevMin", unfollowed := true, recurses := true, plainKeys := false, apart := false, narrowed := true }
def TwolevMinUptoSaid : Prop := twolevMinUptoRow.holds Tryz.pinned (OpenSpec.upto twolevMinSpec)

/-- 'skolemlaw33.TwolevMore', WHERE WHAT IT READS IS OF BULK AT MOST 1048576: true; the input reads as it did. -/
def twolevMoreUptoRow : OpenClaim := { program := "ytoefoaabnjeofaagreat", sum := "5ee54247fe79690cb8efab312df9b8d3b42cc8c8db82252bcae552b919be9322", func := "skolem/skolemlaw33.TwolevMore", spec := "twolevMore", unfollowed := true, recurses := true, plainKeys := false, apart := false, narrowed := true }
def TwolevMoreUptoSaid : Prop := twolevMoreUptoRow.holds Tryz.pinned (OpenSpec.upto twolevMoreSpec)

/-- 'skolemlaw33.TwolevSelects', WHERE WHAT IT READS IS OF BULK AT MOST 1048576: true; the input reads as it did. -/
def twolevSelectsUptoRow : OpenClaim := { program := "ytoefoaabnjeofaagreat", sum := "5ee54247fe79690cb8efab312df9b8d3b42cc8c8db82252bcae552b919be9322", func := "skolem/skolemlaw33.TwolevSelects", spec := "twolevSelects", unfollowed := true, recurses := true, plainKeys := false, apart := false, narrowed := true }
def TwolevSelectsUptoSaid : Prop := twolevSelectsUptoRow.holds Tryz.pinned (OpenSpec.upto twolevSelectsSpec)

/-- 'skolemlaw33.TwolevBack', WHERE WHAT IT READS IS OF BULK AT MOST 1048576: true; the input reads as it did. -/
def twolevBackUptoRow : OpenClaim := { program := "ytoefoaabnjeofaagreat", sum := "5ee54247fe79690cb8efab312df9b8d3b42cc8c8db82252bcae552b919be9322", func := "skolem/skolemlaw33.TwolevBack", spec := "twolevBack", unfollowed := true, recurses := true, plainKeys := false, apart := false, narrowed := true }
def TwolevBackUptoSaid : Prop := twolevBackUptoRow.holds Tryz.pinned (OpenSpec.upto twolevBackSpec)

/-- 'skolemlaw23.AnnotSound', WHERE WHAT IT READS IS OF BULK AT MOST 1048576: true; the input reads as it did. -/
def annotSoundUptoRow : OpenClaim := { program := "ytoefoaabnjeofaagreat", sum := "5ee54247fe79690cb8efab312df9b8d3b42cc8c8db82252bcae552b919be9322", func := "skolem/skolemlaw23.AnnotSound", spec := "annotSound", unfollowed := true, recurses := true, plainKeys := false, apart := false, narrowed := true }
def AnnotSoundUptoSaid : Prop := annotSoundUptoRow.holds Tryz.pinned (OpenSpec.upto annotSoundSpec)

/-- 'skolemlaw29.DefineCopies', WHERE WHAT IT READS IS OF BULK AT MOST 1048576: true; the input reads as it did. -/
def defineCopiesUptoRow : OpenClaim := { program := "ytoefoaabnjeofaagreat", sum := "5ee54247fe79690cb8efab312df9b8d3b42cc8c8db82252bcae552b919be9322", func := "skolem/skolemlaw29.DefineCopies", spec := "defineCopies", unfollowed := true, recurses := true, plainKeys := false, apart := false, narrowed := true }
def DefineCopiesUptoSaid : Prop := defineCopiesUptoRow.holds Tryz.pinned (OpenSpec.upto defineCopiesSpec)

/-- 'skolemlaw29.DefineOver', WHERE WHAT IT READS IS OF BULK AT MOST 1048576: true; the input reads as it did. -/
def defineOverUptoRow : OpenClaim := { program := "ytoefoaabnjeofaagreat", sum := "5ee54247fe79690cb8efab312df9b8d3b42cc8c8db82252bcae552b919be9322", func := "skolem/skolemlaw29.DefineOver", spec := "defineOver", unfollowed := true, recurses := true, plainKeys := false, apart := false, narrowed := true }
def DefineOverUptoSaid : Prop := defineOverUptoRow.holds Tryz.pinned (OpenSpec.upto defineOverSpec)

/-- 'skolemlaw25.SweepEquals', WHERE WHAT IT READS IS OF BULK AT MOST 1048576: true; the input reads as it did. -/
def sweepEqualsUptoRow : OpenClaim := { program := "ytoefoaabnjeofaagreat", sum := "5ee54247fe79690cb8efab312df9b8d3b42cc8c8db82252bcae552b919be9322", func := "skolem/skolemlaw25.SweepEquals", spec := "sweepEquals", unfollowed := true, recurses := true, plainKeys := false, apart := false, narrowed := true }
def SweepEqualsUptoSaid : Prop := sweepEqualsUptoRow.holds Tryz.pinned (OpenSpec.upto sweepEqualsSpec)

end Rows
end Go.Proofs.YtoefoaabnjeofaaGreat
