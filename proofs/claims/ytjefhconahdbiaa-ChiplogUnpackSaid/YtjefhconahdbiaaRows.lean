/-
  No cell of these rows narrows 'for every input' (looked for: loops, veiled, ifaces, maps, wideKeys, modest, calm, conditions, laid).
  DERIVED. THE GIVEN ROWS OF THIS SEAT. 12 by the template 'for every input the law returns true; each argument reads behind the call as it read before'; 0 by the template 'total and deterministic' (their statements: YtjefhconahdbiaaTotals.lean).
  GIVEN WITH THE SEED: the statements are not yours to turn. If you find one false, say at which input.
  Laid BY PROGRAM, IN A SANDBOX (cutbox-rows.mjs): the forced cells as the released guide's own fill.sh prints them over the translation d5b32e8d77ddda9d… (all of the seat's roots in one cut). By AI agents, Wed Nov 11 2026. No macro, syntax, notation, axiom, sorry.
-/
import Derived.Test.YtjefhconahdbiaaChecked
import GoSem.Claim
import GoSem.ClaimJoined
import GoSem.ClaimMapViews
import Derived.JoinedTies
import Derived.KernelRfl
namespace Go.Proofs.Ytjefhconahdbiaa
/- THE CELL 'sum', in the pinned program and in every row, IS THE sha256 OF THE DUMP (.gsa) THAT YtjefhconahdbiaaProg.lean LOADS. Nothing in Lean hashes anything: it is a label: what it is worth is what the hold of that sum in a sandbox is worth. -/
noncomputable def Try.pinned : Pinned := { name := "ytjefhconahdbiaa", sum := "d5b32e8d77ddda9db3429cc6b632432c85d9891afa68cf816e9f566d2562f1a6", checked := Try.checked }
namespace Rows
def none {H : Type} : Left H := { results := [], args := [] }

/-- 'orchestrionlaw11.VoiceCount': WHATEVER THE INPUT: true; the input reads as it did. -/
def voiceCountSpec : ChangeSpec := { name := "voiceCount", fn := fun _ => fun
  | [d] => { results := [.lit (.bool true)], args := [d] }
  | _ => none }
def voiceCountRow : OpenClaim := { program := "ytjefhconahdbiaa", sum := "d5b32e8d77ddda9db3429cc6b632432c85d9891afa68cf816e9f566d2562f1a6", func := "orchestrion/orchestrionlaw11.VoiceCount", spec := "voiceCount", apart := false }
def VoiceCountSaid : Prop := voiceCountRow.holds Try.pinned (OpenSpec.ofChange voiceCountSpec)

/-- ITS FALSE NEIGHBOUR: 'it returns false'. Refute it at one input. -/
def voiceCountWrong : ChangeSpec := { name := "voiceCount", fn := fun _ => fun
  | [d] => { results := [.lit (.bool false)], args := [d] }
  | _ => none }
def VoiceCountWrongFalsely : Prop := voiceCountRow.holds Try.pinned (OpenSpec.ofChange voiceCountWrong)

/-- 'orchestrionlaw09.OrderFrames': WHATEVER THE INPUT: true; the input reads as it did. -/
def orderFramesSpec : ChangeSpec := { name := "orderFrames", fn := fun _ => fun
  | [d1, d2, d3] => { results := [.lit (.bool true)], args := [d1, d2, d3] }
  | _ => none }
def orderFramesRow : OpenClaim := { program := "ytjefhconahdbiaa", sum := "d5b32e8d77ddda9db3429cc6b632432c85d9891afa68cf816e9f566d2562f1a6", func := "orchestrion/orchestrionlaw09.OrderFrames", spec := "orderFrames", apart := false }
def OrderFramesSaid : Prop := orderFramesRow.holds Try.pinned (OpenSpec.ofChange orderFramesSpec)

/-- ITS FALSE NEIGHBOUR: 'it returns false'. Refute it at one input. -/
def orderFramesWrong : ChangeSpec := { name := "orderFrames", fn := fun _ => fun
  | [d1, d2, d3] => { results := [.lit (.bool false)], args := [d1, d2, d3] }
  | _ => none }
def OrderFramesWrongFalsely : Prop := orderFramesRow.holds Try.pinned (OpenSpec.ofChange orderFramesWrong)

/-- 'orchestrionlaw09.OrderCarried': WHATEVER THE INPUT: true; the input reads as it did. -/
def orderCarriedSpec : ChangeSpec := { name := "orderCarried", fn := fun _ => fun
  | [d1, d2, d3] => { results := [.lit (.bool true)], args := [d1, d2, d3] }
  | _ => none }
def orderCarriedRow : OpenClaim := { program := "ytjefhconahdbiaa", sum := "d5b32e8d77ddda9db3429cc6b632432c85d9891afa68cf816e9f566d2562f1a6", func := "orchestrion/orchestrionlaw09.OrderCarried", spec := "orderCarried", apart := false }
def OrderCarriedSaid : Prop := orderCarriedRow.holds Try.pinned (OpenSpec.ofChange orderCarriedSpec)

/-- ITS FALSE NEIGHBOUR: 'it returns false'. Refute it at one input. -/
def orderCarriedWrong : ChangeSpec := { name := "orderCarried", fn := fun _ => fun
  | [d1, d2, d3] => { results := [.lit (.bool false)], args := [d1, d2, d3] }
  | _ => none }
def OrderCarriedWrongFalsely : Prop := orderCarriedRow.holds Try.pinned (OpenSpec.ofChange orderCarriedWrong)

/-- 'orchestrionlaw24.ChiplogWrites': WHATEVER THE INPUT: true; the input reads as it did. -/
def chiplogWritesSpec : ChangeSpec := { name := "chiplogWrites", fn := fun _ => fun
  | [d] => { results := [.lit (.bool true)], args := [d] }
  | _ => none }
def chiplogWritesRow : OpenClaim := { program := "ytjefhconahdbiaa", sum := "d5b32e8d77ddda9db3429cc6b632432c85d9891afa68cf816e9f566d2562f1a6", func := "orchestrion/orchestrionlaw24.ChiplogWrites", spec := "chiplogWrites", apart := false }
def ChiplogWritesSaid : Prop := chiplogWritesRow.holds Try.pinned (OpenSpec.ofChange chiplogWritesSpec)

/-- ITS FALSE NEIGHBOUR: 'it returns false'. Refute it at one input. -/
def chiplogWritesWrong : ChangeSpec := { name := "chiplogWrites", fn := fun _ => fun
  | [d] => { results := [.lit (.bool false)], args := [d] }
  | _ => none }
def ChiplogWritesWrongFalsely : Prop := chiplogWritesRow.holds Try.pinned (OpenSpec.ofChange chiplogWritesWrong)

/-- 'orchestrionlaw14.MixAdd': WHATEVER THE INPUT: true; the input reads as it did. -/
def mixAddSpec : ChangeSpec := { name := "mixAdd", fn := fun _ => fun
  | [d1, d2] => { results := [.lit (.bool true)], args := [d1, d2] }
  | _ => none }
def mixAddRow : OpenClaim := { program := "ytjefhconahdbiaa", sum := "d5b32e8d77ddda9db3429cc6b632432c85d9891afa68cf816e9f566d2562f1a6", func := "orchestrion/orchestrionlaw14.MixAdd", spec := "mixAdd", unfollowed := true, recurses := true, apart := false }
def MixAddSaid : Prop := mixAddRow.holds Try.pinned (OpenSpec.ofChange mixAddSpec)

/-- ITS FALSE NEIGHBOUR: 'it returns false'. Refute it at one input. -/
def mixAddWrong : ChangeSpec := { name := "mixAdd", fn := fun _ => fun
  | [d1, d2] => { results := [.lit (.bool false)], args := [d1, d2] }
  | _ => none }
def MixAddWrongFalsely : Prop := mixAddRow.holds Try.pinned (OpenSpec.ofChange mixAddWrong)

/-- 'orchestrionlaw24.ChiplogRows': WHATEVER THE INPUT: true; the input reads as it did. -/
def chiplogRowsSpec : ChangeSpec := { name := "chiplogRows", fn := fun _ => fun
  | [d] => { results := [.lit (.bool true)], args := [d] }
  | _ => none }
def chiplogRowsRow : OpenClaim := { program := "ytjefhconahdbiaa", sum := "d5b32e8d77ddda9db3429cc6b632432c85d9891afa68cf816e9f566d2562f1a6", func := "orchestrion/orchestrionlaw24.ChiplogRows", spec := "chiplogRows", inPlace := ["internal/abi.NoEscape"], apart := false }
def ChiplogRowsSaid : Prop := chiplogRowsRow.holds Try.pinned (OpenSpec.ofChange chiplogRowsSpec)

/-- ITS FALSE NEIGHBOUR: 'it returns false'. Refute it at one input. -/
def chiplogRowsWrong : ChangeSpec := { name := "chiplogRows", fn := fun _ => fun
  | [d] => { results := [.lit (.bool false)], args := [d] }
  | _ => none }
def ChiplogRowsWrongFalsely : Prop := chiplogRowsRow.holds Try.pinned (OpenSpec.ofChange chiplogRowsWrong)

/-- 'orchestrionlaw14.MixBounds': WHATEVER THE INPUT: true; the input reads as it did. -/
def mixBoundsSpec : ChangeSpec := { name := "mixBounds", fn := fun _ => fun
  | [d] => { results := [.lit (.bool true)], args := [d] }
  | _ => none }
def mixBoundsRow : OpenClaim := { program := "ytjefhconahdbiaa", sum := "d5b32e8d77ddda9db3429cc6b632432c85d9891afa68cf816e9f566d2562f1a6", func := "orchestrion/orchestrionlaw14.MixBounds", spec := "mixBounds", unfollowed := true, recurses := true, apart := false }
def MixBoundsSaid : Prop := mixBoundsRow.holds Try.pinned (OpenSpec.ofChange mixBoundsSpec)

/-- ITS FALSE NEIGHBOUR: 'it returns false'. Refute it at one input. -/
def mixBoundsWrong : ChangeSpec := { name := "mixBounds", fn := fun _ => fun
  | [d] => { results := [.lit (.bool false)], args := [d] }
  | _ => none }
def MixBoundsWrongFalsely : Prop := mixBoundsRow.holds Try.pinned (OpenSpec.ofChange mixBoundsWrong)

/-- 'orchestrionlaw14.MixFinish': WHATEVER THE INPUT: true; the input reads as it did. -/
def mixFinishSpec : ChangeSpec := { name := "mixFinish", fn := fun _ => fun
  | [d] => { results := [.lit (.bool true)], args := [d] }
  | _ => none }
def mixFinishRow : OpenClaim := { program := "ytjefhconahdbiaa", sum := "d5b32e8d77ddda9db3429cc6b632432c85d9891afa68cf816e9f566d2562f1a6", func := "orchestrion/orchestrionlaw14.MixFinish", spec := "mixFinish", unfollowed := true, recurses := true, apart := false }
def MixFinishSaid : Prop := mixFinishRow.holds Try.pinned (OpenSpec.ofChange mixFinishSpec)

/-- ITS FALSE NEIGHBOUR: 'it returns false'. Refute it at one input. -/
def mixFinishWrong : ChangeSpec := { name := "mixFinish", fn := fun _ => fun
  | [d] => { results := [.lit (.bool false)], args := [d] }
  | _ => none }
def MixFinishWrongFalsely : Prop := mixFinishRow.holds Try.pinned (OpenSpec.ofChange mixFinishWrong)

/-- 'orchestrionlaw24.ChiplogPack': WHATEVER THE INPUT: true; the input reads as it did. -/
def chiplogPackSpec : ChangeSpec := { name := "chiplogPack", fn := fun _ => fun
  | [d] => { results := [.lit (.bool true)], args := [d] }
  | _ => none }
def chiplogPackRow : OpenClaim := { program := "ytjefhconahdbiaa", sum := "d5b32e8d77ddda9db3429cc6b632432c85d9891afa68cf816e9f566d2562f1a6", func := "orchestrion/orchestrionlaw24.ChiplogPack", spec := "chiplogPack", apart := false }
def ChiplogPackSaid : Prop := chiplogPackRow.holds Try.pinned (OpenSpec.ofChange chiplogPackSpec)

/-- ITS FALSE NEIGHBOUR: 'it returns false'. Refute it at one input. -/
def chiplogPackWrong : ChangeSpec := { name := "chiplogPack", fn := fun _ => fun
  | [d] => { results := [.lit (.bool false)], args := [d] }
  | _ => none }
def ChiplogPackWrongFalsely : Prop := chiplogPackRow.holds Try.pinned (OpenSpec.ofChange chiplogPackWrong)

/-- 'orchestrionlaw24.ChiplogUnpack': WHATEVER THE INPUT: true; the input reads as it did. -/
def chiplogUnpackSpec : ChangeSpec := { name := "chiplogUnpack", fn := fun _ => fun
  | [d] => { results := [.lit (.bool true)], args := [d] }
  | _ => none }
def chiplogUnpackRow : OpenClaim := { program := "ytjefhconahdbiaa", sum := "d5b32e8d77ddda9db3429cc6b632432c85d9891afa68cf816e9f566d2562f1a6", func := "orchestrion/orchestrionlaw24.ChiplogUnpack", spec := "chiplogUnpack", unfollowed := true, recurses := true, apart := false }
def ChiplogUnpackSaid : Prop := chiplogUnpackRow.holds Try.pinned (OpenSpec.ofChange chiplogUnpackSpec)

/-- ITS FALSE NEIGHBOUR: 'it returns false'. Refute it at one input. -/
def chiplogUnpackWrong : ChangeSpec := { name := "chiplogUnpack", fn := fun _ => fun
  | [d] => { results := [.lit (.bool false)], args := [d] }
  | _ => none }
def ChiplogUnpackWrongFalsely : Prop := chiplogUnpackRow.holds Try.pinned (OpenSpec.ofChange chiplogUnpackWrong)

/-- 'orchestrionlaw24.ChiplogSmall': WHATEVER THE INPUT: true; the input reads as it did. -/
def chiplogSmallSpec : ChangeSpec := { name := "chiplogSmall", fn := fun _ => fun
  | [d] => { results := [.lit (.bool true)], args := [d] }
  | _ => none }
def chiplogSmallRow : OpenClaim := { program := "ytjefhconahdbiaa", sum := "d5b32e8d77ddda9db3429cc6b632432c85d9891afa68cf816e9f566d2562f1a6", func := "orchestrion/orchestrionlaw24.ChiplogSmall", spec := "chiplogSmall", unfollowed := true, recurses := true, apart := false }
def ChiplogSmallSaid : Prop := chiplogSmallRow.holds Try.pinned (OpenSpec.ofChange chiplogSmallSpec)

/-- ITS FALSE NEIGHBOUR: 'it returns false'. Refute it at one input. -/
def chiplogSmallWrong : ChangeSpec := { name := "chiplogSmall", fn := fun _ => fun
  | [d] => { results := [.lit (.bool false)], args := [d] }
  | _ => none }
def ChiplogSmallWrongFalsely : Prop := chiplogSmallRow.holds Try.pinned (OpenSpec.ofChange chiplogSmallWrong)

/-- 'orchestrionlaw24.ChiplogBack': WHATEVER THE INPUT: true; the input reads as it did. -/
def chiplogBackSpec : ChangeSpec := { name := "chiplogBack", fn := fun _ => fun
  | [d1, d2] => { results := [.lit (.bool true)], args := [d1, d2] }
  | _ => none }
def chiplogBackRow : OpenClaim := { program := "ytjefhconahdbiaa", sum := "d5b32e8d77ddda9db3429cc6b632432c85d9891afa68cf816e9f566d2562f1a6", func := "orchestrion/orchestrionlaw24.ChiplogBack", spec := "chiplogBack", unfollowed := true, recurses := true, apart := false }
def ChiplogBackSaid : Prop := chiplogBackRow.holds Try.pinned (OpenSpec.ofChange chiplogBackSpec)

/-- ITS FALSE NEIGHBOUR: 'it returns false'. Refute it at one input. -/
def chiplogBackWrong : ChangeSpec := { name := "chiplogBack", fn := fun _ => fun
  | [d1, d2] => { results := [.lit (.bool false)], args := [d1, d2] }
  | _ => none }
def ChiplogBackWrongFalsely : Prop := chiplogBackRow.holds Try.pinned (OpenSpec.ofChange chiplogBackWrong)

/- THE SECOND FORM. 'bulk': how many values and letters a reading holds, each counted each time it is reached (what is shared counts as often as it is met; a slice's spare places count too). A statement '..UptoSaid' is the law's where the arguments, and the package variables that the reading takes, are together of bulk at most 1048576: NARROWER than '..Said'. Prove '..Said' where nothing that the law and all that it calls make is longer than what came in: it says more and counts as full. Else prove '..UptoSaid'. A law counts once. -/
mutual
def uptoBulk {H : Type} : DataW H → Nat
  | .lit (.string bytes) => bytes.length + 1
  | .lit _ => 1
  | .nil => 1
  | .ptr d => uptoBulk d + 1
  | .slice elems spare => uptoBulkAll elems + uptoBulkAll spare + 1
  | .agg parts => uptoBulkAll parts + 1
  | .iface _ d => uptoBulk d + 1
  | .map entries => uptoBulkEntries entries + 1
  | .held _ => 1
def uptoBulkAll {H : Type} : List (DataW H) → Nat
  | [] => 0
  | d :: r => uptoBulk d + uptoBulkAll r
def uptoBulkEntries {H : Type} : List (Lit × DataW H) → Nat
  | [] => 0
  | x :: r => uptoBulkEntry x + uptoBulkEntries r
def uptoBulkEntry {H : Type} : Lit × DataW H → Nat
  | (.string bytes, d) => bytes.length + uptoBulk d + 1
  | (_, d) => uptoBulk d + 1
 end
def uptoSmall : (H : Type) → List (DataW H) → Bool := fun _ ds => decide (uptoBulkAll ds ≤ 1048576)
def OpenSpec.upto (s : _root_.Go.ChangeSpec) : _root_.Go.OpenSpec := { _root_.Go.OpenSpec.ofChange s with cond := some uptoSmall }

/-- 'orchestrionlaw11.VoiceCount', WHERE WHAT IT READS IS OF BULK AT MOST 1048576: true; the input reads as it did. -/
def voiceCountUptoRow : OpenClaim := { program := "ytjefhconahdbiaa", sum := "d5b32e8d77ddda9db3429cc6b632432c85d9891afa68cf816e9f566d2562f1a6", func := "orchestrion/orchestrionlaw11.VoiceCount", spec := "voiceCount", apart := false, narrowed := true }
def VoiceCountUptoSaid : Prop := voiceCountUptoRow.holds Try.pinned (OpenSpec.upto voiceCountSpec)

/-- 'orchestrionlaw09.OrderFrames', WHERE WHAT IT READS IS OF BULK AT MOST 1048576: true; the input reads as it did. -/
def orderFramesUptoRow : OpenClaim := { program := "ytjefhconahdbiaa", sum := "d5b32e8d77ddda9db3429cc6b632432c85d9891afa68cf816e9f566d2562f1a6", func := "orchestrion/orchestrionlaw09.OrderFrames", spec := "orderFrames", apart := false, narrowed := true }
def OrderFramesUptoSaid : Prop := orderFramesUptoRow.holds Try.pinned (OpenSpec.upto orderFramesSpec)

/-- 'orchestrionlaw09.OrderCarried', WHERE WHAT IT READS IS OF BULK AT MOST 1048576: true; the input reads as it did. -/
def orderCarriedUptoRow : OpenClaim := { program := "ytjefhconahdbiaa", sum := "d5b32e8d77ddda9db3429cc6b632432c85d9891afa68cf816e9f566d2562f1a6", func := "orchestrion/orchestrionlaw09.OrderCarried", spec := "orderCarried", apart := false, narrowed := true }
def OrderCarriedUptoSaid : Prop := orderCarriedUptoRow.holds Try.pinned (OpenSpec.upto orderCarriedSpec)

/-- 'orchestrionlaw24.ChiplogWrites', WHERE WHAT IT READS IS OF BULK AT MOST 1048576: true; the input reads as it did. -/
def chiplogWritesUptoRow : OpenClaim := { program := "ytjefhconahdbiaa", sum := "d5b32e8d77ddda9db3429cc6b632432c85d9891afa68cf816e9f566d2562f1a6", func := "orchestrion/orchestrionlaw24.ChiplogWrites", spec := "chiplogWrites", apart := false, narrowed := true }
def ChiplogWritesUptoSaid : Prop := chiplogWritesUptoRow.holds Try.pinned (OpenSpec.upto chiplogWritesSpec)

/-- 'orchestrionlaw14.MixAdd', WHERE WHAT IT READS IS OF BULK AT MOST 1048576: true; the input reads as it did. -/
def mixAddUptoRow : OpenClaim := { program := "ytjefhconahdbiaa", sum := "d5b32e8d77ddda9db3429cc6b632432c85d9891afa68cf816e9f566d2562f1a6", func := "orchestrion/orchestrionlaw14.MixAdd", spec := "mixAdd", unfollowed := true, recurses := true, apart := false, narrowed := true }
def MixAddUptoSaid : Prop := mixAddUptoRow.holds Try.pinned (OpenSpec.upto mixAddSpec)

/-- 'orchestrionlaw24.ChiplogRows', WHERE WHAT IT READS IS OF BULK AT MOST 1048576: true; the input reads as it did. -/
def chiplogRowsUptoRow : OpenClaim := { program := "ytjefhconahdbiaa", sum := "d5b32e8d77ddda9db3429cc6b632432c85d9891afa68cf816e9f566d2562f1a6", func := "orchestrion/orchestrionlaw24.ChiplogRows", spec := "chiplogRows", inPlace := ["internal/abi.NoEscape"], apart := false, narrowed := true }
def ChiplogRowsUptoSaid : Prop := chiplogRowsUptoRow.holds Try.pinned (OpenSpec.upto chiplogRowsSpec)

/-- 'orchestrionlaw14.MixBounds', WHERE WHAT IT READS IS OF BULK AT MOST 1048576: true; the input reads as it did. -/
def mixBoundsUptoRow : OpenClaim := { program := "ytjefhconahdbiaa", sum := "d5b32e8d77ddda9db3429cc6b632432c85d9891afa68cf816e9f566d2562f1a6", func := "orchestrion/orchestrionlaw14.MixBounds", spec := "mixBounds", unfollowed := true, recurses := true, apart := false, narrowed := true }
def MixBoundsUptoSaid : Prop := mixBoundsUptoRow.holds Try.pinned (OpenSpec.upto mixBoundsSpec)

/-- 'orchestrionlaw14.MixFinish', WHERE WHAT IT READS IS OF BULK AT MOST 1048576: true; the input reads as it did. -/
def mixFinishUptoRow : OpenClaim := { program := "ytjefhconahdbiaa", sum := "d5b32e8d77ddda9db3429cc6b632432c85d9891afa68cf816e9f566d2562f1a6", func := "orchestrion/orchestrionlaw14.MixFinish", spec := "mixFinish", unfollowed := true, recurses := true, apart := false, narrowed := true }
def MixFinishUptoSaid : Prop := mixFinishUptoRow.holds Try.pinned (OpenSpec.upto mixFinishSpec)

/-- 'orchestrionlaw24.ChiplogPack', WHERE WHAT IT READS IS OF BULK AT MOST 1048576: true; the input reads as it did. -/
def chiplogPackUptoRow : OpenClaim := { program := "ytjefhconahdbiaa", sum := "d5b32e8d77ddda9db3429cc6b632432c85d9891afa68cf816e9f566d2562f1a6", func := "orchestrion/orchestrionlaw24.ChiplogPack", spec := "chiplogPack", apart := false, narrowed := true }
def ChiplogPackUptoSaid : Prop := chiplogPackUptoRow.holds Try.pinned (OpenSpec.upto chiplogPackSpec)

/-- 'orchestrionlaw24.ChiplogUnpack', WHERE WHAT IT READS IS OF BULK AT MOST 1048576: true; the input reads as it did. -/
def chiplogUnpackUptoRow : OpenClaim := { program := "ytjefhconahdbiaa", sum := "d5b32e8d77ddda9db3429cc6b632432c85d9891afa68cf816e9f566d2562f1a6", func := "orchestrion/orchestrionlaw24.ChiplogUnpack", spec := "chiplogUnpack", unfollowed := true, recurses := true, apart := false, narrowed := true }
def ChiplogUnpackUptoSaid : Prop := chiplogUnpackUptoRow.holds Try.pinned (OpenSpec.upto chiplogUnpackSpec)

/-- 'orchestrionlaw24.ChiplogSmall', WHERE WHAT IT READS IS OF BULK AT MOST 1048576: true; the input reads as it did. -/
def chiplogSmallUptoRow : OpenClaim := { program := "ytjefhconahdbiaa", sum := "d5b32e8d77ddda9db3429cc6b632432c85d9891afa68cf816e9f566d2562f1a6", func := "orchestrion/orchestrionlaw24.ChiplogSmall", spec := "chiplogSmall", unfollowed := true, recurses := true, apart := false, narrowed := true }
def ChiplogSmallUptoSaid : Prop := chiplogSmallUptoRow.holds Try.pinned (OpenSpec.upto chiplogSmallSpec)

/-- 'orchestrionlaw24.ChiplogBack', WHERE WHAT IT READS IS OF BULK AT MOST 1048576: true; the input reads as it did. -/
def chiplogBackUptoRow : OpenClaim := { program := "ytjefhconahdbiaa", sum := "d5b32e8d77ddda9db3429cc6b632432c85d9891afa68cf816e9f566d2562f1a6", func := "orchestrion/orchestrionlaw24.ChiplogBack", spec := "chiplogBack", unfollowed := true, recurses := true, apart := false, narrowed := true }
def ChiplogBackUptoSaid : Prop := chiplogBackUptoRow.holds Try.pinned (OpenSpec.upto chiplogBackSpec)

end Rows
end Go.Proofs.Ytjefhconahdbiaa
