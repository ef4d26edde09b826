/-
  No cell of these rows narrows 'for every input' (looked for: loops, veiled, ifaces, maps, wideKeys, modest, calm, conditions, laid).
  DERIVED. THE GIVEN ROWS OF THIS SEAT. 12 by the template 'for every input the law returns true; each argument reads behind the call as it read before'; 0 by the template 'total and deterministic' (their statements: YtakmcbakogjeeaaTotals.lean).
  GIVEN WITH THE SEED: the statements are not yours to turn. If you find one false, say at which input.
  Laid BY PROGRAM, IN A SANDBOX (cutbox-rows.mjs): the forced cells as the released guide's own fill.sh prints them over the translation df4191733f072fb2… (all of the seat's roots in one cut). By AI agents, Wed Nov 11 2026. No macro, syntax, notation, axiom, sorry.
-/
import Derived.Test.YtakmcbakogjeeaaChecked
import GoSem.Claim
import GoSem.ClaimJoined
import GoSem.ClaimMapViews
import Derived.JoinedTies
import Derived.KernelRfl
namespace Go.Proofs.Ytakmcbakogjeeaa
/- THE CELL 'sum', in the pinned program and in every row, IS THE sha256 OF THE DUMP (.gsa) THAT YtakmcbakogjeeaaProg.lean LOADS. Nothing in Lean hashes anything: it is a label: what it is worth is what the hold of that sum in a sandbox is worth. -/
noncomputable def Try.pinned : Pinned := { name := "ytakmcbakogjeeaa", sum := "df4191733f072fb2386100bf1ea67892920cd7104e5b6084b16d0f369d86dfe6", checked := Try.checked }
namespace Rows
def none {H : Type} : Left H := { results := [], args := [] }

/-- 'caravellaw06.InboxEnds': WHATEVER THE INPUT: true; the input reads as it did. -/
def inboxEndsSpec : ChangeSpec := { name := "inboxEnds", fn := fun _ => fun
  | [d1, d2, d3] => { results := [.lit (.bool true)], args := [d1, d2, d3] }
  | _ => none }
def inboxEndsRow : OpenClaim := { program := "ytakmcbakogjeeaa", sum := "df4191733f072fb2386100bf1ea67892920cd7104e5b6084b16d0f369d86dfe6", func := "caravel/caravellaw06.InboxEnds", spec := "inboxEnds", unfollowed := true, recurses := true, apart := false }
def InboxEndsSaid : Prop := inboxEndsRow.holds Try.pinned (OpenSpec.ofChange inboxEndsSpec)

/-- ITS FALSE NEIGHBOUR: 'it returns false'. Refute it at one input. -/
def inboxEndsWrong : ChangeSpec := { name := "inboxEnds", fn := fun _ => fun
  | [d1, d2, d3] => { results := [.lit (.bool false)], args := [d1, d2, d3] }
  | _ => none }
def InboxEndsWrongFalsely : Prop := inboxEndsRow.holds Try.pinned (OpenSpec.ofChange inboxEndsWrong)

/-- 'caravellaw06.InboxBack': WHATEVER THE INPUT: true; the input reads as it did. -/
def inboxBackSpec : ChangeSpec := { name := "inboxBack", fn := fun _ => fun
  | [d1, d2, d3] => { results := [.lit (.bool true)], args := [d1, d2, d3] }
  | _ => none }
def inboxBackRow : OpenClaim := { program := "ytakmcbakogjeeaa", sum := "df4191733f072fb2386100bf1ea67892920cd7104e5b6084b16d0f369d86dfe6", func := "caravel/caravellaw06.InboxBack", spec := "inboxBack", unfollowed := true, recurses := true, apart := false }
def InboxBackSaid : Prop := inboxBackRow.holds Try.pinned (OpenSpec.ofChange inboxBackSpec)

/-- ITS FALSE NEIGHBOUR: 'it returns false'. Refute it at one input. -/
def inboxBackWrong : ChangeSpec := { name := "inboxBack", fn := fun _ => fun
  | [d1, d2, d3] => { results := [.lit (.bool false)], args := [d1, d2, d3] }
  | _ => none }
def InboxBackWrongFalsely : Prop := inboxBackRow.holds Try.pinned (OpenSpec.ofChange inboxBackWrong)

/-- 'caravellaw06.InboxNobody': WHATEVER THE INPUT: true; the input reads as it did. -/
def inboxNobodySpec : ChangeSpec := { name := "inboxNobody", fn := fun _ => fun
  | [d] => { results := [.lit (.bool true)], args := [d] }
  | _ => none }
def inboxNobodyRow : OpenClaim := { program := "ytakmcbakogjeeaa", sum := "df4191733f072fb2386100bf1ea67892920cd7104e5b6084b16d0f369d86dfe6", func := "caravel/caravellaw06.InboxNobody", spec := "inboxNobody", unfollowed := true, recurses := true, apart := false }
def InboxNobodySaid : Prop := inboxNobodyRow.holds Try.pinned (OpenSpec.ofChange inboxNobodySpec)

/-- ITS FALSE NEIGHBOUR: 'it returns false'. Refute it at one input. -/
def inboxNobodyWrong : ChangeSpec := { name := "inboxNobody", fn := fun _ => fun
  | [d] => { results := [.lit (.bool false)], args := [d] }
  | _ => none }
def InboxNobodyWrongFalsely : Prop := inboxNobodyRow.holds Try.pinned (OpenSpec.ofChange inboxNobodyWrong)

/-- 'caravellaw06.InboxPlays': WHATEVER THE INPUT: true; the input reads as it did. -/
def inboxPlaysSpec : ChangeSpec := { name := "inboxPlays", fn := fun _ => fun
  | [d1, d2] => { results := [.lit (.bool true)], args := [d1, d2] }
  | _ => none }
def inboxPlaysRow : OpenClaim := { program := "ytakmcbakogjeeaa", sum := "df4191733f072fb2386100bf1ea67892920cd7104e5b6084b16d0f369d86dfe6", func := "caravel/caravellaw06.InboxPlays", spec := "inboxPlays", unfollowed := true, recurses := true, apart := false }
def InboxPlaysSaid : Prop := inboxPlaysRow.holds Try.pinned (OpenSpec.ofChange inboxPlaysSpec)

/-- ITS FALSE NEIGHBOUR: 'it returns false'. Refute it at one input. -/
def inboxPlaysWrong : ChangeSpec := { name := "inboxPlays", fn := fun _ => fun
  | [d1, d2] => { results := [.lit (.bool false)], args := [d1, d2] }
  | _ => none }
def InboxPlaysWrongFalsely : Prop := inboxPlaysRow.holds Try.pinned (OpenSpec.ofChange inboxPlaysWrong)

/-- 'caravellaw25.WheelAnew': WHATEVER THE INPUT: true; the input reads as it did. -/
def wheelAnewSpec : ChangeSpec := { name := "wheelAnew", fn := fun _ => fun
  | [d1, d2, d3] => { results := [.lit (.bool true)], args := [d1, d2, d3] }
  | _ => none }
def wheelAnewRow : OpenClaim := { program := "ytakmcbakogjeeaa", sum := "df4191733f072fb2386100bf1ea67892920cd7104e5b6084b16d0f369d86dfe6", func := "caravel/caravellaw25.WheelAnew", spec := "wheelAnew", unfollowed := true, recurses := true, apart := false }
def WheelAnewSaid : Prop := wheelAnewRow.holds Try.pinned (OpenSpec.ofChange wheelAnewSpec)

/-- ITS FALSE NEIGHBOUR: 'it returns false'. Refute it at one input. -/
def wheelAnewWrong : ChangeSpec := { name := "wheelAnew", fn := fun _ => fun
  | [d1, d2, d3] => { results := [.lit (.bool false)], args := [d1, d2, d3] }
  | _ => none }
def WheelAnewWrongFalsely : Prop := wheelAnewRow.holds Try.pinned (OpenSpec.ofChange wheelAnewWrong)

/-- 'caravellaw25.WheelNobody': WHATEVER THE INPUT: true; the input reads as it did. -/
def wheelNobodySpec : ChangeSpec := { name := "wheelNobody", fn := fun _ => fun
  | [d] => { results := [.lit (.bool true)], args := [d] }
  | _ => none }
def wheelNobodyRow : OpenClaim := { program := "ytakmcbakogjeeaa", sum := "df4191733f072fb2386100bf1ea67892920cd7104e5b6084b16d0f369d86dfe6", func := "caravel/caravellaw25.WheelNobody", spec := "wheelNobody", unfollowed := true, recurses := true, apart := false }
def WheelNobodySaid : Prop := wheelNobodyRow.holds Try.pinned (OpenSpec.ofChange wheelNobodySpec)

/-- ITS FALSE NEIGHBOUR: 'it returns false'. Refute it at one input. -/
def wheelNobodyWrong : ChangeSpec := { name := "wheelNobody", fn := fun _ => fun
  | [d] => { results := [.lit (.bool false)], args := [d] }
  | _ => none }
def WheelNobodyWrongFalsely : Prop := wheelNobodyRow.holds Try.pinned (OpenSpec.ofChange wheelNobodyWrong)

/-- 'caravellaw25.WheelPlays': WHATEVER THE INPUT: true; the input reads as it did. -/
def wheelPlaysSpec : ChangeSpec := { name := "wheelPlays", fn := fun _ => fun
  | [d1, d2] => { results := [.lit (.bool true)], args := [d1, d2] }
  | _ => none }
def wheelPlaysRow : OpenClaim := { program := "ytakmcbakogjeeaa", sum := "df4191733f072fb2386100bf1ea67892920cd7104e5b6084b16d0f369d86dfe6", func := "caravel/caravellaw25.WheelPlays", spec := "wheelPlays", unfollowed := true, recurses := true, apart := false }
def WheelPlaysSaid : Prop := wheelPlaysRow.holds Try.pinned (OpenSpec.ofChange wheelPlaysSpec)

/-- ITS FALSE NEIGHBOUR: 'it returns false'. Refute it at one input. -/
def wheelPlaysWrong : ChangeSpec := { name := "wheelPlays", fn := fun _ => fun
  | [d1, d2] => { results := [.lit (.bool false)], args := [d1, d2] }
  | _ => none }
def WheelPlaysWrongFalsely : Prop := wheelPlaysRow.holds Try.pinned (OpenSpec.ofChange wheelPlaysWrong)

/-- 'caravellaw25.WheelOnce': WHATEVER THE INPUT: true; the input reads as it did. -/
def wheelOnceSpec : ChangeSpec := { name := "wheelOnce", fn := fun _ => fun
  | [d1, d2, d3] => { results := [.lit (.bool true)], args := [d1, d2, d3] }
  | _ => none }
def wheelOnceRow : OpenClaim := { program := "ytakmcbakogjeeaa", sum := "df4191733f072fb2386100bf1ea67892920cd7104e5b6084b16d0f369d86dfe6", func := "caravel/caravellaw25.WheelOnce", spec := "wheelOnce", unfollowed := true, recurses := true, apart := false }
def WheelOnceSaid : Prop := wheelOnceRow.holds Try.pinned (OpenSpec.ofChange wheelOnceSpec)

/-- ITS FALSE NEIGHBOUR: 'it returns false'. Refute it at one input. -/
def wheelOnceWrong : ChangeSpec := { name := "wheelOnce", fn := fun _ => fun
  | [d1, d2, d3] => { results := [.lit (.bool false)], args := [d1, d2, d3] }
  | _ => none }
def WheelOnceWrongFalsely : Prop := wheelOnceRow.holds Try.pinned (OpenSpec.ofChange wheelOnceWrong)

/-- 'caravellaw24.PathThrice': WHATEVER THE INPUT: true; the input reads as it did. -/
def pathThriceSpec : ChangeSpec := { name := "pathThrice", fn := fun _ => fun
  | [d] => { results := [.lit (.bool true)], args := [d] }
  | _ => none }
def pathThriceRow : OpenClaim := { program := "ytakmcbakogjeeaa", sum := "df4191733f072fb2386100bf1ea67892920cd7104e5b6084b16d0f369d86dfe6", func := "caravel/caravellaw24.PathThrice", spec := "pathThrice", unfollowed := true, recurses := true, apart := false }
def PathThriceSaid : Prop := pathThriceRow.holds Try.pinned (OpenSpec.ofChange pathThriceSpec)

/-- ITS FALSE NEIGHBOUR: 'it returns false'. Refute it at one input. -/
def pathThriceWrong : ChangeSpec := { name := "pathThrice", fn := fun _ => fun
  | [d] => { results := [.lit (.bool false)], args := [d] }
  | _ => none }
def PathThriceWrongFalsely : Prop := pathThriceRow.holds Try.pinned (OpenSpec.ofChange pathThriceWrong)

/-- 'caravellaw24.PathNobody': WHATEVER THE INPUT: true; the input reads as it did. -/
def pathNobodySpec : ChangeSpec := { name := "pathNobody", fn := fun _ => fun
  | [d] => { results := [.lit (.bool true)], args := [d] }
  | _ => none }
def pathNobodyRow : OpenClaim := { program := "ytakmcbakogjeeaa", sum := "df4191733f072fb2386100bf1ea67892920cd7104e5b6084b16d0f369d86dfe6", func := "caravel/caravellaw24.PathNobody", spec := "pathNobody", unfollowed := true, recurses := true, apart := false }
def PathNobodySaid : Prop := pathNobodyRow.holds Try.pinned (OpenSpec.ofChange pathNobodySpec)

/-- ITS FALSE NEIGHBOUR: 'it returns false'. Refute it at one input. -/
def pathNobodyWrong : ChangeSpec := { name := "pathNobody", fn := fun _ => fun
  | [d] => { results := [.lit (.bool false)], args := [d] }
  | _ => none }
def PathNobodyWrongFalsely : Prop := pathNobodyRow.holds Try.pinned (OpenSpec.ofChange pathNobodyWrong)

/-- 'caravellaw24.PathPlays': WHATEVER THE INPUT: true; the input reads as it did. -/
def pathPlaysSpec : ChangeSpec := { name := "pathPlays", fn := fun _ => fun
  | [d1, d2, d3] => { results := [.lit (.bool true)], args := [d1, d2, d3] }
  | _ => none }
def pathPlaysRow : OpenClaim := { program := "ytakmcbakogjeeaa", sum := "df4191733f072fb2386100bf1ea67892920cd7104e5b6084b16d0f369d86dfe6", func := "caravel/caravellaw24.PathPlays", spec := "pathPlays", unfollowed := true, recurses := true, apart := false }
def PathPlaysSaid : Prop := pathPlaysRow.holds Try.pinned (OpenSpec.ofChange pathPlaysSpec)

/-- ITS FALSE NEIGHBOUR: 'it returns false'. Refute it at one input. -/
def pathPlaysWrong : ChangeSpec := { name := "pathPlays", fn := fun _ => fun
  | [d1, d2, d3] => { results := [.lit (.bool false)], args := [d1, d2, d3] }
  | _ => none }
def PathPlaysWrongFalsely : Prop := pathPlaysRow.holds Try.pinned (OpenSpec.ofChange pathPlaysWrong)

/-- 'caravellaw15.LedgerNobody': WHATEVER THE INPUT: true; the input reads as it did. -/
def ledgerNobodySpec : ChangeSpec := { name := "ledgerNobody", fn := fun _ => fun
  | [d] => { results := [.lit (.bool true)], args := [d] }
  | _ => none }
def ledgerNobodyRow : OpenClaim := { program := "ytakmcbakogjeeaa", sum := "df4191733f072fb2386100bf1ea67892920cd7104e5b6084b16d0f369d86dfe6", func := "caravel/caravellaw15.LedgerNobody", spec := "ledgerNobody", inPlace := ["slices.overlaps[int]"], unfollowed := true, recurses := true, apart := false }
def LedgerNobodySaid : Prop := ledgerNobodyRow.holds Try.pinned (OpenSpec.ofChange ledgerNobodySpec)

/-- ITS FALSE NEIGHBOUR: 'it returns false'. Refute it at one input. -/
def ledgerNobodyWrong : ChangeSpec := { name := "ledgerNobody", fn := fun _ => fun
  | [d] => { results := [.lit (.bool false)], args := [d] }
  | _ => none }
def LedgerNobodyWrongFalsely : Prop := ledgerNobodyRow.holds Try.pinned (OpenSpec.ofChange ledgerNobodyWrong)

/- THE SECOND FORM. 'bulk': how many values and letters a reading holds, each counted each time it is reached (what is shared counts as often as it is met; a slice's spare places count too). A statement '..UptoSaid' is the law's where the arguments, and the package variables that the reading takes, are together of bulk at most 1048576: NARROWER than '..Said'. Prove '..Said' where nothing that the law and all that it calls make is longer than what came in: it says more and counts as full. Else prove '..UptoSaid'. A law counts once. -/
mutual
def uptoBulk {H : Type} : DataW H → Nat
  | .lit (.string bytes) => bytes.length + 1
  | .lit _ => 1
  | .nil => 1
  | .ptr d => uptoBulk d + 1
  | .slice elems spare => uptoBulkAll elems + uptoBulkAll spare + 1
  | .agg parts => uptoBulkAll parts + 1
  | .iface _ d => uptoBulk d + 1
  | .map entries => uptoBulkEntries entries + 1
  | .held _ => 1
def uptoBulkAll {H : Type} : List (DataW H) → Nat
  | [] => 0
  | d :: r => uptoBulk d + uptoBulkAll r
def uptoBulkEntries {H : Type} : List (Lit × DataW H) → Nat
  | [] => 0
  | x :: r => uptoBulkEntry x + uptoBulkEntries r
def uptoBulkEntry {H : Type} : Lit × DataW H → Nat
  | (.string bytes, d) => bytes.length + uptoBulk d + 1
  | (_, d) => uptoBulk d + 1
 end
def uptoSmall : (H : Type) → List (DataW H) → Bool := fun _ ds => decide (uptoBulkAll ds ≤ 1048576)
def OpenSpec.upto (s : _root_.Go.ChangeSpec) : _root_.Go.OpenSpec := { _root_.Go.OpenSpec.ofChange s with cond := some uptoSmall }

/-- 'caravellaw06.InboxEnds', WHERE WHAT IT READS IS OF BULK AT MOST 1048576: true; the input reads as it did. -/
def inboxEndsUptoRow : OpenClaim := { program := "ytakmcbakogjeeaa", sum := "df4191733f072fb2386100bf1ea67892920cd7104e5b6084b16d0f369d86dfe6", func := "caravel/caravellaw06.InboxEnds", spec := "inboxEnds", unfollowed := true, recurses := true, apart := false, narrowed := true }
def InboxEndsUptoSaid : Prop := inboxEndsUptoRow.holds Try.pinned (OpenSpec.upto inboxEndsSpec)

/-- 'caravellaw06.InboxBack', WHERE WHAT IT READS IS OF BULK AT MOST 1048576: true; the input reads as it did. -/
def inboxBackUptoRow : OpenClaim := { program := "ytakmcbakogjeeaa", sum := "df4191733f072fb2386100bf1ea67892920cd7104e5b6084b16d0f369d86dfe6", func := "caravel/caravellaw06.InboxBack", spec := "inboxBack", unfollowed := true, recurses := true, apart := false, narrowed := true }
def InboxBackUptoSaid : Prop := inboxBackUptoRow.holds Try.pinned (OpenSpec.upto inboxBackSpec)

/-- 'caravellaw06.InboxNobody', WHERE WHAT IT READS IS OF BULK AT MOST 1048576: true; the input reads as it did. -/
def inboxNobodyUptoRow : OpenClaim := { program := "ytakmcbakogjeeaa", sum := "df4191733f072fb2386100bf1ea67892920cd7104e5b6084b16d0f369d86dfe6", func := "caravel/caravellaw06.InboxNobody", spec := "inboxNobody", unfollowed := true, recurses := true, apart := false, narrowed := true }
def InboxNobodyUptoSaid : Prop := inboxNobodyUptoRow.holds Try.pinned (OpenSpec.upto inboxNobodySpec)

/-- 'caravellaw06.InboxPlays', WHERE WHAT IT READS IS OF BULK AT MOST 1048576: true; the input reads as it did. -/
def inboxPlaysUptoRow : OpenClaim := { program := "ytakmcbakogjeeaa", sum := "df4191733f072fb2386100bf1ea67892920cd7104e5b6084b16d0f369d86dfe6", func := "caravel/caravellaw06.InboxPlays", spec := "inboxPlays", unfollowed := true, recurses := true, apart := false, narrowed := true }
def InboxPlaysUptoSaid : Prop := inboxPlaysUptoRow.holds Try.pinned (OpenSpec.upto inboxPlaysSpec)

/-- 'caravellaw25.WheelAnew', WHERE WHAT IT READS IS OF BULK AT MOST 1048576: true; the input reads as it did. -/
def wheelAnewUptoRow : OpenClaim := { program := "ytakmcbakogjeeaa", sum := "df4191733f072fb2386100bf1ea67892920cd7104e5b6084b16d0f369d86dfe6", func := "caravel/caravellaw25.WheelAnew", spec := "wheelAnew", unfollowed := true, recurses := true, apart := false, narrowed := true }
def WheelAnewUptoSaid : Prop := wheelAnewUptoRow.holds Try.pinned (OpenSpec.upto wheelAnewSpec)

/-- 'caravellaw25.WheelNobody', WHERE WHAT IT READS IS OF BULK AT MOST 1048576: true; the input reads as it did. -/
def wheelNobodyUptoRow : OpenClaim := { program := "ytakmcbakogjeeaa", sum := "df4191733f072fb2386100bf1ea67892920cd7104e5b6084b16d0f369d86dfe6", func := "caravel/caravellaw25.WheelNobody", spec := "wheelNobody", unfollowed := true, recurses := true, apart := false, narrowed := true }
def WheelNobodyUptoSaid : Prop := wheelNobodyUptoRow.holds Try.pinned (OpenSpec.upto wheelNobodySpec)

/-- 'caravellaw25.WheelPlays', WHERE WHAT IT READS IS OF BULK AT MOST 1048576: true; the input reads as it did. -/
def wheelPlaysUptoRow : OpenClaim := { program := "ytakmcbakogjeeaa", sum := "df4191733f072fb2386100bf1ea67892920cd7104e5b6084b16d0f369d86dfe6", func := "caravel/caravellaw25.WheelPlays", spec := "wheelPlays", unfollowed := true, recurses := true, apart := false, narrowed := true }
def WheelPlaysUptoSaid : Prop := wheelPlaysUptoRow.holds Try.pinned (OpenSpec.upto wheelPlaysSpec)

/-- 'caravellaw25.WheelOnce', WHERE WHAT IT READS IS OF BULK AT MOST 1048576: true; the input reads as it did. -/
def wheelOnceUptoRow : OpenClaim := { program := "ytakmcbakogjeeaa", sum := "df4191733f072fb2386100bf1ea67892920cd7104e5b6084b16d0f369d86dfe6", func := "caravel/caravellaw25.WheelOnce", spec := "wheelOnce", unfollowed := true, recurses := true, apart := false, narrowed := true }
def WheelOnceUptoSaid : Prop := wheelOnceUptoRow.holds Try.pinned (OpenSpec.upto wheelOnceSpec)

/-- 'caravellaw24.PathThrice', WHERE WHAT IT READS IS OF BULK AT MOST 1048576: true; the input reads as it did. -/
def pathThriceUptoRow : OpenClaim := { program := "ytakmcbakogjeeaa", sum := "df4191733f072fb2386100bf1ea67892920cd7104e5b6084b16d0f369d86dfe6", func := "caravel/caravellaw24.PathThrice", spec := "pathThrice", unfollowed := true, recurses := true, apart := false, narrowed := true }
def PathThriceUptoSaid : Prop := pathThriceUptoRow.holds Try.pinned (OpenSpec.upto pathThriceSpec)

/-- 'caravellaw24.PathNobody', WHERE WHAT IT READS IS OF BULK AT MOST 1048576: true; the input reads as it did. -/
def pathNobodyUptoRow : OpenClaim := { program := "ytakmcbakogjeeaa", sum := "df4191733f072fb2386100bf1ea67892920cd7104e5b6084b16d0f369d86dfe6", func := "caravel/caravellaw24.PathNobody", spec := "pathNobody", unfollowed := true, recurses := true, apart := false, narrowed := true }
def PathNobodyUptoSaid : Prop := pathNobodyUptoRow.holds Try.pinned (OpenSpec.upto pathNobodySpec)

/-- 'caravellaw24.PathPlays', WHERE WHAT IT READS IS OF BULK AT MOST 1048576: true; the input reads as it did. -/
def pathPlaysUptoRow : OpenClaim := { program := "ytakmcbakogjeeaa", sum := "df4191733f072fb2386100bf1ea67892920cd7104e5b6084b16d0f369d86dfe6", func := "caravel/caravellaw24.PathPlays", spec := "pathPlays", unfollowed := true, recurses := true, apart := false, narrowed := true }
def PathPlaysUptoSaid : Prop := pathPlaysUptoRow.holds Try.pinned (OpenSpec.upto pathPlaysSpec)

/-- 'caravellaw15.LedgerNobody', WHERE WHAT IT READS IS OF BULK AT MOST 1048576: true; the input reads as it did. -/
def ledgerNobodyUptoRow : OpenClaim := { program := "ytakmcbakogjeeaa", sum := "df4191733f072fb2386100bf1ea67892920cd7104e5b6084b16d0f369d86dfe6", func := "caravel/caravellaw15.LedgerNobody", spec := "ledgerNobody", inPlace := ["slices.overlaps[int]"], unfollowed := true, recurses := true, apart := false, narrowed := true }
def LedgerNobodyUptoSaid : Prop := ledgerNobodyUptoRow.holds Try.pinned (OpenSpec.upto ledgerNobodySpec)

end Rows
end Go.Proofs.Ytakmcbakogjeeaa
