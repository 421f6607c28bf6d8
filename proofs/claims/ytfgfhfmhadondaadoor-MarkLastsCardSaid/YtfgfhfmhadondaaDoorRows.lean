/-
  NARROWER THAN 'FOR EVERY INPUT', by the rows' own cells (each row's printed sentence says how): ViewSame: laid · ViewOpens: laid · MarkLasts: laid · MarkApart: laid · MarkRises: laid · MarkPlays: laid · MarkOpens: laid · MarkAgain: laid.
  DERIVED. THE GIVEN ROWS OF THIS SEAT. 8 by the template 'for every input the law returns true; each argument reads behind the call as it read before'; 0 by the template 'total and deterministic' (their statements: YtfgfhfmhadondaaDoorTotals.lean).
  GIVEN WITH THE SEED: the statements are not yours to turn. If you find one false, say at which input.
  Laid BY PROGRAM, IN A SANDBOX (cutbox-rows.mjs): the forced cells as the released guide's own fill.sh prints them over the translation 1be89fb8dd0d03ab… (all of the seat's roots in one cut). By AI agents, Wed Nov 11 2026. No macro, syntax, notation, axiom, sorry.
-/
import Derived.Test.YtfgfhfmhadondaaDoorChecked
import GoSem.Claim
import GoSem.ClaimJoined
import GoSem.ClaimMapViews
import Derived.JoinedTies
import Derived.KernelRfl
namespace Go.Proofs.YtfgfhfmhadondaaDoor
/- THE CELL 'sum', in the pinned program and in every row, IS THE sha256 OF THE DUMP (.gsa) THAT YtfgfhfmhadondaaDoorProg.lean LOADS. Nothing in Lean hashes anything: it is a label: what it is worth is what the hold of that sum in a sandbox is worth. -/
noncomputable def Tryd.pinned : Pinned := { name := "ytfgfhfmhadondaadoor", sum := "1be89fb8dd0d03abc874a6ea384d6afe0cddcbf7911cd4a71476eb10faf2c7a5", checked := Tryd.checked }
namespace Rows
def none {H : Type} : Left H := { results := [], args := [] }

/- WHAT THE LISTED PACKAGE-LEVEL VARIABLES READ AS WHEN THE CALL BEGINS. Each datum BY PROGRAM (the guide's laid-datum.mjs) off the statement by which the dump's own 'gosem.cut.vars' lays the variable. In a bare row this is a premise. The card (YtfgfhfmhadondaaDoorCards.lean) ties it to the program's text. -/
def laid_sealchain_sha_round {H : Type} : DataW H := .agg [.lit (.int .u32 1116352408), .lit (.int .u32 1899447441), .lit (.int .u32 3049323471), .lit (.int .u32 3921009573), .lit (.int .u32 961987163), .lit (.int .u32 1508970993), .lit (.int .u32 2453635748), .lit (.int .u32 2870763221), .lit (.int .u32 3624381080), .lit (.int .u32 310598401), .lit (.int .u32 607225278), .lit (.int .u32 1426881987), .lit (.int .u32 1925078388), .lit (.int .u32 2162078206), .lit (.int .u32 2614888103), .lit (.int .u32 3248222580), .lit (.int .u32 3835390401), .lit (.int .u32 4022224774), .lit (.int .u32 264347078), .lit (.int .u32 604807628), .lit (.int .u32 770255983), .lit (.int .u32 1249150122), .lit (.int .u32 1555081692), .lit (.int .u32 1996064986), .lit (.int .u32 2554220882), .lit (.int .u32 2821834349), .lit (.int .u32 2952996808), .lit (.int .u32 3210313671), .lit (.int .u32 3336571891), .lit (.int .u32 3584528711), .lit (.int .u32 113926993), .lit (.int .u32 338241895), .lit (.int .u32 666307205), .lit (.int .u32 773529912), .lit (.int .u32 1294757372), .lit (.int .u32 1396182291), .lit (.int .u32 1695183700), .lit (.int .u32 1986661051), .lit (.int .u32 2177026350), .lit (.int .u32 2456956037), .lit (.int .u32 2730485921), .lit (.int .u32 2820302411), .lit (.int .u32 3259730800), .lit (.int .u32 3345764771), .lit (.int .u32 3516065817), .lit (.int .u32 3600352804), .lit (.int .u32 4094571909), .lit (.int .u32 275423344), .lit (.int .u32 430227734), .lit (.int .u32 506948616), .lit (.int .u32 659060556), .lit (.int .u32 883997877), .lit (.int .u32 958139571), .lit (.int .u32 1322822218), .lit (.int .u32 1537002063), .lit (.int .u32 1747873779), .lit (.int .u32 1955562222), .lit (.int .u32 2024104815), .lit (.int .u32 2227730452), .lit (.int .u32 2361852424), .lit (.int .u32 2428436474), .lit (.int .u32 2756734187), .lit (.int .u32 3204031479), .lit (.int .u32 3329325298)]
def laid_sealchain_sha_first {H : Type} : DataW H := .agg [.lit (.int .u32 1779033703), .lit (.int .u32 3144134277), .lit (.int .u32 1013904242), .lit (.int .u32 2773480762), .lit (.int .u32 1359893119), .lit (.int .u32 2600822924), .lit (.int .u32 528734635), .lit (.int .u32 1541459225)]

/-- 'sealchainlaw24.ViewSame': WHATEVER THE INPUT: true; the input reads as it did. -/
def viewSameSpec : ChangeSpec := { name := "viewSame", fn := fun _ => fun
  | [d1, d2, d3] => { results := [.lit (.bool true)], args := [d1, d2, d3] }
  | _ => none }
def viewSameRow : OpenClaim := { program := "ytfgfhfmhadondaadoor", sum := "1be89fb8dd0d03abc874a6ea384d6afe0cddcbf7911cd4a71476eb10faf2c7a5", func := "sealchain/sealchainlaw24.ViewSame", spec := "viewSame", unfollowed := true, recurses := true, named := ["sealchain/sha.first", "sealchain/sha.round"], plainKeys := false, apart := false, laid := [("sealchain/sha.round", laid_sealchain_sha_round), ("sealchain/sha.first", laid_sealchain_sha_first)] }
def ViewSameSaid : Prop := viewSameRow.holds Tryd.pinned (OpenSpec.ofChange viewSameSpec)

/-- ITS FALSE NEIGHBOUR: 'it returns false'. Refute it at one input. -/
def viewSameWrong : ChangeSpec := { name := "viewSame", fn := fun _ => fun
  | [d1, d2, d3] => { results := [.lit (.bool false)], args := [d1, d2, d3] }
  | _ => none }
def ViewSameWrongFalsely : Prop := viewSameRow.holds Tryd.pinned (OpenSpec.ofChange viewSameWrong)

/-- 'sealchainlaw24.ViewOpens': WHATEVER THE INPUT: true; the input reads as it did. -/
def viewOpensSpec : ChangeSpec := { name := "viewOpens", fn := fun _ => fun
  | [d1, d2] => { results := [.lit (.bool true)], args := [d1, d2] }
  | _ => none }
def viewOpensRow : OpenClaim := { program := "ytfgfhfmhadondaadoor", sum := "1be89fb8dd0d03abc874a6ea384d6afe0cddcbf7911cd4a71476eb10faf2c7a5", func := "sealchain/sealchainlaw24.ViewOpens", spec := "viewOpens", unfollowed := true, recurses := true, named := ["sealchain/sha.first", "sealchain/sha.round"], plainKeys := false, apart := false, laid := [("sealchain/sha.round", laid_sealchain_sha_round), ("sealchain/sha.first", laid_sealchain_sha_first)] }
def ViewOpensSaid : Prop := viewOpensRow.holds Tryd.pinned (OpenSpec.ofChange viewOpensSpec)

/-- ITS FALSE NEIGHBOUR: 'it returns false'. Refute it at one input. -/
def viewOpensWrong : ChangeSpec := { name := "viewOpens", fn := fun _ => fun
  | [d1, d2] => { results := [.lit (.bool false)], args := [d1, d2] }
  | _ => none }
def ViewOpensWrongFalsely : Prop := viewOpensRow.holds Tryd.pinned (OpenSpec.ofChange viewOpensWrong)

/-- 'sealchainlaw10.MarkLasts': WHATEVER THE INPUT: true; the input reads as it did. -/
def markLastsSpec : ChangeSpec := { name := "markLasts", fn := fun _ => fun
  | [d] => { results := [.lit (.bool true)], args := [d] }
  | _ => none }
def markLastsRow : OpenClaim := { program := "ytfgfhfmhadondaadoor", sum := "1be89fb8dd0d03abc874a6ea384d6afe0cddcbf7911cd4a71476eb10faf2c7a5", func := "sealchain/sealchainlaw10.MarkLasts", spec := "markLasts", inPlace := ["internal/bytealg.Compare"], unfollowed := true, recurses := true, named := ["sealchain/sha.first", "sealchain/sha.round"], plainKeys := false, apart := false, laid := [("sealchain/sha.round", laid_sealchain_sha_round), ("sealchain/sha.first", laid_sealchain_sha_first)] }
def MarkLastsSaid : Prop := markLastsRow.holds Tryd.pinned (OpenSpec.ofChange markLastsSpec)

/-- ITS FALSE NEIGHBOUR: 'it returns false'. Refute it at one input. -/
def markLastsWrong : ChangeSpec := { name := "markLasts", fn := fun _ => fun
  | [d] => { results := [.lit (.bool false)], args := [d] }
  | _ => none }
def MarkLastsWrongFalsely : Prop := markLastsRow.holds Tryd.pinned (OpenSpec.ofChange markLastsWrong)

/-- 'sealchainlaw10.MarkApart': WHATEVER THE INPUT: true; the input reads as it did. -/
def markApartSpec : ChangeSpec := { name := "markApart", fn := fun _ => fun
  | [d] => { results := [.lit (.bool true)], args := [d] }
  | _ => none }
def markApartRow : OpenClaim := { program := "ytfgfhfmhadondaadoor", sum := "1be89fb8dd0d03abc874a6ea384d6afe0cddcbf7911cd4a71476eb10faf2c7a5", func := "sealchain/sealchainlaw10.MarkApart", spec := "markApart", inPlace := ["internal/bytealg.Compare"], unfollowed := true, recurses := true, named := ["sealchain/sha.first", "sealchain/sha.round"], plainKeys := false, apart := false, laid := [("sealchain/sha.round", laid_sealchain_sha_round), ("sealchain/sha.first", laid_sealchain_sha_first)] }
def MarkApartSaid : Prop := markApartRow.holds Tryd.pinned (OpenSpec.ofChange markApartSpec)

/-- ITS FALSE NEIGHBOUR: 'it returns false'. Refute it at one input. -/
def markApartWrong : ChangeSpec := { name := "markApart", fn := fun _ => fun
  | [d] => { results := [.lit (.bool false)], args := [d] }
  | _ => none }
def MarkApartWrongFalsely : Prop := markApartRow.holds Tryd.pinned (OpenSpec.ofChange markApartWrong)

/-- 'sealchainlaw10.MarkRises': WHATEVER THE INPUT: true; the input reads as it did. -/
def markRisesSpec : ChangeSpec := { name := "markRises", fn := fun _ => fun
  | [d] => { results := [.lit (.bool true)], args := [d] }
  | _ => none }
def markRisesRow : OpenClaim := { program := "ytfgfhfmhadondaadoor", sum := "1be89fb8dd0d03abc874a6ea384d6afe0cddcbf7911cd4a71476eb10faf2c7a5", func := "sealchain/sealchainlaw10.MarkRises", spec := "markRises", inPlace := ["internal/bytealg.Compare"], unfollowed := true, recurses := true, named := ["sealchain/sha.first", "sealchain/sha.round"], plainKeys := false, apart := false, laid := [("sealchain/sha.round", laid_sealchain_sha_round), ("sealchain/sha.first", laid_sealchain_sha_first)] }
def MarkRisesSaid : Prop := markRisesRow.holds Tryd.pinned (OpenSpec.ofChange markRisesSpec)

/-- ITS FALSE NEIGHBOUR: 'it returns false'. Refute it at one input. -/
def markRisesWrong : ChangeSpec := { name := "markRises", fn := fun _ => fun
  | [d] => { results := [.lit (.bool false)], args := [d] }
  | _ => none }
def MarkRisesWrongFalsely : Prop := markRisesRow.holds Tryd.pinned (OpenSpec.ofChange markRisesWrong)

/-- 'sealchainlaw10.MarkPlays': WHATEVER THE INPUT: true; the input reads as it did. -/
def markPlaysSpec : ChangeSpec := { name := "markPlays", fn := fun _ => fun
  | [d] => { results := [.lit (.bool true)], args := [d] }
  | _ => none }
def markPlaysRow : OpenClaim := { program := "ytfgfhfmhadondaadoor", sum := "1be89fb8dd0d03abc874a6ea384d6afe0cddcbf7911cd4a71476eb10faf2c7a5", func := "sealchain/sealchainlaw10.MarkPlays", spec := "markPlays", inPlace := ["internal/bytealg.Compare", "maps.clone"], unfollowed := true, recurses := true, named := ["sealchain/sha.first", "sealchain/sha.round"], plainKeys := false, apart := false, laid := [("sealchain/sha.round", laid_sealchain_sha_round), ("sealchain/sha.first", laid_sealchain_sha_first)] }
def MarkPlaysSaid : Prop := markPlaysRow.holds Tryd.pinned (OpenSpec.ofChange markPlaysSpec)

/-- ITS FALSE NEIGHBOUR: 'it returns false'. Refute it at one input. -/
def markPlaysWrong : ChangeSpec := { name := "markPlays", fn := fun _ => fun
  | [d] => { results := [.lit (.bool false)], args := [d] }
  | _ => none }
def MarkPlaysWrongFalsely : Prop := markPlaysRow.holds Tryd.pinned (OpenSpec.ofChange markPlaysWrong)

/-- 'sealchainlaw10.MarkOpens': WHATEVER THE INPUT: true; the input reads as it did. -/
def markOpensSpec : ChangeSpec := { name := "markOpens", fn := fun _ => fun
  | [d] => { results := [.lit (.bool true)], args := [d] }
  | _ => none }
def markOpensRow : OpenClaim := { program := "ytfgfhfmhadondaadoor", sum := "1be89fb8dd0d03abc874a6ea384d6afe0cddcbf7911cd4a71476eb10faf2c7a5", func := "sealchain/sealchainlaw10.MarkOpens", spec := "markOpens", inPlace := ["internal/bytealg.Compare"], unfollowed := true, recurses := true, named := ["sealchain/sha.first", "sealchain/sha.round"], plainKeys := false, apart := false, laid := [("sealchain/sha.round", laid_sealchain_sha_round), ("sealchain/sha.first", laid_sealchain_sha_first)] }
def MarkOpensSaid : Prop := markOpensRow.holds Tryd.pinned (OpenSpec.ofChange markOpensSpec)

/-- ITS FALSE NEIGHBOUR: 'it returns false'. Refute it at one input. -/
def markOpensWrong : ChangeSpec := { name := "markOpens", fn := fun _ => fun
  | [d] => { results := [.lit (.bool false)], args := [d] }
  | _ => none }
def MarkOpensWrongFalsely : Prop := markOpensRow.holds Tryd.pinned (OpenSpec.ofChange markOpensWrong)

/-- 'sealchainlaw10.MarkAgain': WHATEVER THE INPUT: true; the input reads as it did. -/
def markAgainSpec : ChangeSpec := { name := "markAgain", fn := fun _ => fun
  | [d] => { results := [.lit (.bool true)], args := [d] }
  | _ => none }
def markAgainRow : OpenClaim := { program := "ytfgfhfmhadondaadoor", sum := "1be89fb8dd0d03abc874a6ea384d6afe0cddcbf7911cd4a71476eb10faf2c7a5", func := "sealchain/sealchainlaw10.MarkAgain", spec := "markAgain", inPlace := ["internal/bytealg.Compare"], unfollowed := true, recurses := true, named := ["sealchain/sha.first", "sealchain/sha.round"], plainKeys := false, apart := false, laid := [("sealchain/sha.round", laid_sealchain_sha_round), ("sealchain/sha.first", laid_sealchain_sha_first)] }
def MarkAgainSaid : Prop := markAgainRow.holds Tryd.pinned (OpenSpec.ofChange markAgainSpec)

/-- ITS FALSE NEIGHBOUR: 'it returns false'. Refute it at one input. -/
def markAgainWrong : ChangeSpec := { name := "markAgain", fn := fun _ => fun
  | [d] => { results := [.lit (.bool false)], args := [d] }
  | _ => none }
def MarkAgainWrongFalsely : Prop := markAgainRow.holds Tryd.pinned (OpenSpec.ofChange markAgainWrong)

/- THE SECOND FORM. 'bulk': how many values and letters a reading holds, each counted each time it is reached (what is shared counts as often as it is met; a slice's spare places count too). A statement '..UptoSaid' is the law's where the arguments, and the package variables that the reading takes, are together of bulk at most 1048576: NARROWER than '..Said'. Prove '..Said' where nothing that the law and all that it calls make is longer than what came in: it says more and counts as full. Else prove '..UptoSaid'. A law counts once. -/
mutual
def uptoBulk {H : Type} : DataW H → Nat
  | .lit (.string bytes) => bytes.length + 1
  | .lit _ => 1
  | .nil => 1
  | .ptr d => uptoBulk d + 1
  | .slice elems spare => uptoBulkAll elems + uptoBulkAll spare + 1
  | .agg parts => uptoBulkAll parts + 1
  | .iface _ d => uptoBulk d + 1
  | .map entries => uptoBulkEntries entries + 1
  | .held _ => 1
def uptoBulkAll {H : Type} : List (DataW H) → Nat
  | [] => 0
  | d :: r => uptoBulk d + uptoBulkAll r
def uptoBulkEntries {H : Type} : List (Lit × DataW H) → Nat
  | [] => 0
  | x :: r => uptoBulkEntry x + uptoBulkEntries r
def uptoBulkEntry {H : Type} : Lit × DataW H → Nat
  | (.string bytes, d) => bytes.length + uptoBulk d + 1
  | (_, d) => uptoBulk d + 1
 end
def uptoSmall : (H : Type) → List (DataW H) → Bool := fun _ ds => decide (uptoBulkAll ds ≤ 1048576)
def OpenSpec.upto (s : _root_.Go.ChangeSpec) : _root_.Go.OpenSpec := { _root_.Go.OpenSpec.ofChange s with cond := some uptoSmall }

/-- 'sealchainlaw24.ViewSame', WHERE WHAT IT READS IS OF BULK AT MOST 1048576: true; the input reads as it did. -/
def viewSameUptoRow : OpenClaim := { program := "ytfgfhfmhadondaadoor", sum := "1be89fb8dd0d03abc874a6ea384d6afe0cddcbf7911cd4a71476eb10faf2c7a5", func := "sealchain/sealchainlaw24.ViewSame", spec := "viewSame", unfollowed := true, recurses := true, named := ["sealchain/sha.first", "sealchain/sha.round"], plainKeys := false, apart := false, laid := [("sealchain/sha.round", laid_sealchain_sha_round), ("sealchain/sha.first", laid_sealchain_sha_first)], narrowed := true }
def ViewSameUptoSaid : Prop := viewSameUptoRow.holds Tryd.pinned (OpenSpec.upto viewSameSpec)

/-- 'sealchainlaw24.ViewOpens', WHERE WHAT IT READS IS OF BULK AT MOST 1048576: true; the input reads as it did. -/
def viewOpensUptoRow : OpenClaim := { program := "ytfgfhfmhadondaadoor", sum := "1be89fb8dd0d03abc874a6ea384d6afe0cddcbf7911cd4a71476eb10faf2c7a5", func := "sealchain/sealchainlaw24.ViewOpens", spec := "viewOpens", unfollowed := true, recurses := true, named := ["sealchain/sha.first", "sealchain/sha.round"], plainKeys := false, apart := false, laid := [("sealchain/sha.round", laid_sealchain_sha_round), ("sealchain/sha.first", laid_sealchain_sha_first)], narrowed := true }
def ViewOpensUptoSaid : Prop := viewOpensUptoRow.holds Tryd.pinned (OpenSpec.upto viewOpensSpec)

/-- 'sealchainlaw10.MarkLasts', WHERE WHAT IT READS IS OF BULK AT MOST 1048576: true; the input reads as it did. -/
def markLastsUptoRow : OpenClaim := { program := "ytfgfhfmhadondaadoor", sum := "1be89fb8dd0d03abc874a6ea384d6afe0cddcbf7911cd4a71476eb10faf2c7a5", func := "sealchain/sealchainlaw10.MarkLasts", spec := "markLasts", inPlace := ["internal/bytealg.Compare"], unfollowed := true, recurses := true, named := ["sealchain/sha.first", "sealchain/sha.round"], plainKeys := false, apart := false, laid := [("sealchain/sha.round", laid_sealchain_sha_round), ("sealchain/sha.first", laid_sealchain_sha_first)], narrowed := true }
def MarkLastsUptoSaid : Prop := markLastsUptoRow.holds Tryd.pinned (OpenSpec.upto markLastsSpec)

/-- 'sealchainlaw10.MarkApart', WHERE WHAT IT READS IS OF BULK AT MOST 1048576: true; the input reads as it did. -/
def markApartUptoRow : OpenClaim := { program := "ytfgfhfmhadondaadoor", sum := "1be89fb8dd0d03abc874a6ea384d6afe0cddcbf7911cd4a71476eb10faf2c7a5", func := "sealchain/sealchainlaw10.MarkApart", spec := "markApart", inPlace := ["internal/bytealg.Compare"], unfollowed := true, recurses := true, named := ["sealchain/sha.first", "sealchain/sha.round"], plainKeys := false, apart := false, laid := [("sealchain/sha.round", laid_sealchain_sha_round), ("sealchain/sha.first", laid_sealchain_sha_first)], narrowed := true }
def MarkApartUptoSaid : Prop := markApartUptoRow.holds Tryd.pinned (OpenSpec.upto markApartSpec)

/-- 'sealchainlaw10.MarkRises', WHERE WHAT IT READS IS OF BULK AT MOST 1048576: true; the input reads as it did. -/
def markRisesUptoRow : OpenClaim := { program := "ytfgfhfmhadondaadoor", sum := "1be89fb8dd0d03abc874a6ea384d6afe0cddcbf7911cd4a71476eb10faf2c7a5", func := "sealchain/sealchainlaw10.MarkRises", spec := "markRises", inPlace := ["internal/bytealg.Compare"], unfollowed := true, recurses := true, named := ["sealchain/sha.first", "sealchain/sha.round"], plainKeys := false, apart := false, laid := [("sealchain/sha.round", laid_sealchain_sha_round), ("sealchain/sha.first", laid_sealchain_sha_first)], narrowed := true }
def MarkRisesUptoSaid : Prop := markRisesUptoRow.holds Tryd.pinned (OpenSpec.upto markRisesSpec)

/-- 'sealchainlaw10.MarkPlays', WHERE WHAT IT READS IS OF BULK AT MOST 1048576: true; the input reads as it did. -/
def markPlaysUptoRow : OpenClaim := { program := "ytfgfhfmhadondaadoor", sum := "1be89fb8dd0d03abc874a6ea384d6afe0cddcbf7911cd4a71476eb10faf2c7a5", func := "sealchain/sealchainlaw10.MarkPlays", spec := "markPlays", inPlace := ["internal/bytealg.Compare", "maps.clone"], unfollowed := true, recurses := true, named := ["sealchain/sha.first", "sealchain/sha.round"], plainKeys := false, apart := false, laid := [("sealchain/sha.round", laid_sealchain_sha_round), ("sealchain/sha.first", laid_sealchain_sha_first)], narrowed := true }
def MarkPlaysUptoSaid : Prop := markPlaysUptoRow.holds Tryd.pinned (OpenSpec.upto markPlaysSpec)

/-- 'sealchainlaw10.MarkOpens', WHERE WHAT IT READS IS OF BULK AT MOST 1048576: true; the input reads as it did. -/
def markOpensUptoRow : OpenClaim := { program := "ytfgfhfmhadondaadoor", sum := "1be89fb8dd0d03abc874a6ea384d6afe0cddcbf7911cd4a71476eb10faf2c7a5", func := "sealchain/sealchainlaw10.MarkOpens", spec := "markOpens", inPlace := ["internal/bytealg.Compare"], unfollowed := true, recurses := true, named := ["sealchain/sha.first", "sealchain/sha.round"], plainKeys := false, apart := false, laid := [("sealchain/sha.round", laid_sealchain_sha_round), ("sealchain/sha.first", laid_sealchain_sha_first)], narrowed := true }
def MarkOpensUptoSaid : Prop := markOpensUptoRow.holds Tryd.pinned (OpenSpec.upto markOpensSpec)

/-- 'sealchainlaw10.MarkAgain', WHERE WHAT IT READS IS OF BULK AT MOST 1048576: true; the input reads as it did. -/
def markAgainUptoRow : OpenClaim := { program := "ytfgfhfmhadondaadoor", sum := "1be89fb8dd0d03abc874a6ea384d6afe0cddcbf7911cd4a71476eb10faf2c7a5", func := "sealchain/sealchainlaw10.MarkAgain", spec := "markAgain", inPlace := ["internal/bytealg.Compare"], unfollowed := true, recurses := true, named := ["sealchain/sha.first", "sealchain/sha.round"], plainKeys := false, apart := false, laid := [("sealchain/sha.round", laid_sealchain_sha_round), ("sealchain/sha.first", laid_sealchain_sha_first)], narrowed := true }
def MarkAgainUptoSaid : Prop := markAgainUptoRow.holds Tryd.pinned (OpenSpec.upto markAgainSpec)

end Rows
end Go.Proofs.YtfgfhfmhadondaaDoor
