/-
  No cell of these rows narrows 'for every input' (looked for: loops, veiled, ifaces, maps, wideKeys, modest, calm, conditions, laid).
  DERIVED. THE GIVEN ROWS OF THIS SEAT. 14 by the template 'for every input the law returns true; each argument reads behind the call as it read before'; 0 by the template 'total and deterministic' (their statements: YtmpndjpaelcnkaaTotals.lean).
  GIVEN WITH THE SEED: the statements are not yours to turn. If you find one false, say at which input.
  Laid BY PROGRAM, IN A SANDBOX (cutbox-rows.mjs): the forced cells as the released guide's own fill.sh prints them over the translation 3e513cf2d43fc1a8… (all of the seat's roots in one cut). By AI agents, Wed Nov 11 2026. No macro, syntax, notation, axiom, sorry.
-/
import Derived.Test.YtmpndjpaelcnkaaChecked
import GoSem.Claim
import GoSem.ClaimJoined
import GoSem.ClaimMapViews
import Derived.JoinedTies
import Derived.KernelRfl
namespace Go.Proofs.Ytmpndjpaelcnkaa
/- THE CELL 'sum', in the pinned program and in every row, IS THE sha256 OF THE DUMP (.gsa) THAT YtmpndjpaelcnkaaProg.lean LOADS. Nothing in Lean hashes anything: it is a label: what it is worth is what the hold of that sum in a sandbox is worth. -/
noncomputable def Try.pinned : Pinned := { name := "ytmpndjpaelcnkaa", sum := "3e513cf2d43fc1a8aca85d8bbacf0314d5fa1985825ab249c390f66a79f8c4da", checked := Try.checked }
namespace Rows
def none {H : Type} : Left H := { results := [], args := [] }

/-- 'delphilaw17.CommandMsg': WHATEVER THE INPUT: true; the input reads as it did. -/
def commandMsgSpec : ChangeSpec := { name := "commandMsg", fn := fun _ => fun
  | [d1, d2, d3, d4] => { results := [.lit (.bool true)], args := [d1, d2, d3, d4] }
  | _ => none }
def commandMsgRow : OpenClaim := { program := "ytmpndjpaelcnkaa", sum := "3e513cf2d43fc1a8aca85d8bbacf0314d5fa1985825ab249c390f66a79f8c4da", func := "delphi/delphilaw17.CommandMsg", spec := "commandMsg", apart := false }
def CommandMsgSaid : Prop := commandMsgRow.holds Try.pinned (OpenSpec.ofChange commandMsgSpec)

/-- ITS FALSE NEIGHBOUR: 'it returns false'. Refute it at one input. -/
def commandMsgWrong : ChangeSpec := { name := "commandMsg", fn := fun _ => fun
  | [d1, d2, d3, d4] => { results := [.lit (.bool false)], args := [d1, d2, d3, d4] }
  | _ => none }
def CommandMsgWrongFalsely : Prop := commandMsgRow.holds Try.pinned (OpenSpec.ofChange commandMsgWrong)

/-- 'delphilaw25.ClientSeq': WHATEVER THE INPUT: true; the input reads as it did. -/
def clientSeqSpec : ChangeSpec := { name := "clientSeq", fn := fun _ => fun
  | [d1, d2] => { results := [.lit (.bool true)], args := [d1, d2] }
  | _ => none }
def clientSeqRow : OpenClaim := { program := "ytmpndjpaelcnkaa", sum := "3e513cf2d43fc1a8aca85d8bbacf0314d5fa1985825ab249c390f66a79f8c4da", func := "delphi/delphilaw25.ClientSeq", spec := "clientSeq", apart := false }
def ClientSeqSaid : Prop := clientSeqRow.holds Try.pinned (OpenSpec.ofChange clientSeqSpec)

/-- ITS FALSE NEIGHBOUR: 'it returns false'. Refute it at one input. -/
def clientSeqWrong : ChangeSpec := { name := "clientSeq", fn := fun _ => fun
  | [d1, d2] => { results := [.lit (.bool false)], args := [d1, d2] }
  | _ => none }
def ClientSeqWrongFalsely : Prop := clientSeqRow.holds Try.pinned (OpenSpec.ofChange clientSeqWrong)

/-- 'delphilaw25.ClientAll': WHATEVER THE INPUT: true; the input reads as it did. -/
def clientAllSpec : ChangeSpec := { name := "clientAll", fn := fun _ => fun
  | [d1, d2] => { results := [.lit (.bool true)], args := [d1, d2] }
  | _ => none }
def clientAllRow : OpenClaim := { program := "ytmpndjpaelcnkaa", sum := "3e513cf2d43fc1a8aca85d8bbacf0314d5fa1985825ab249c390f66a79f8c4da", func := "delphi/delphilaw25.ClientAll", spec := "clientAll", apart := false }
def ClientAllSaid : Prop := clientAllRow.holds Try.pinned (OpenSpec.ofChange clientAllSpec)

/-- ITS FALSE NEIGHBOUR: 'it returns false'. Refute it at one input. -/
def clientAllWrong : ChangeSpec := { name := "clientAll", fn := fun _ => fun
  | [d1, d2] => { results := [.lit (.bool false)], args := [d1, d2] }
  | _ => none }
def ClientAllWrongFalsely : Prop := clientAllRow.holds Try.pinned (OpenSpec.ofChange clientAllWrong)

/-- 'delphilaw23.NetMany': WHATEVER THE INPUT: true; the input reads as it did. -/
def netManySpec : ChangeSpec := { name := "netMany", fn := fun _ => fun
  | [d] => { results := [.lit (.bool true)], args := [d] }
  | _ => none }
def netManyRow : OpenClaim := { program := "ytmpndjpaelcnkaa", sum := "3e513cf2d43fc1a8aca85d8bbacf0314d5fa1985825ab249c390f66a79f8c4da", func := "delphi/delphilaw23.NetMany", spec := "netMany", apart := false }
def NetManySaid : Prop := netManyRow.holds Try.pinned (OpenSpec.ofChange netManySpec)

/-- ITS FALSE NEIGHBOUR: 'it returns false'. Refute it at one input. -/
def netManyWrong : ChangeSpec := { name := "netMany", fn := fun _ => fun
  | [d] => { results := [.lit (.bool false)], args := [d] }
  | _ => none }
def NetManyWrongFalsely : Prop := netManyRow.holds Try.pinned (OpenSpec.ofChange netManyWrong)

/-- 'delphilaw23.NetOrder': WHATEVER THE INPUT: true; the input reads as it did. -/
def netOrderSpec : ChangeSpec := { name := "netOrder", fn := fun _ => fun
  | [d1, d2] => { results := [.lit (.bool true)], args := [d1, d2] }
  | _ => none }
def netOrderRow : OpenClaim := { program := "ytmpndjpaelcnkaa", sum := "3e513cf2d43fc1a8aca85d8bbacf0314d5fa1985825ab249c390f66a79f8c4da", func := "delphi/delphilaw23.NetOrder", spec := "netOrder", apart := false }
def NetOrderSaid : Prop := netOrderRow.holds Try.pinned (OpenSpec.ofChange netOrderSpec)

/-- ITS FALSE NEIGHBOUR: 'it returns false'. Refute it at one input. -/
def netOrderWrong : ChangeSpec := { name := "netOrder", fn := fun _ => fun
  | [d1, d2] => { results := [.lit (.bool false)], args := [d1, d2] }
  | _ => none }
def NetOrderWrongFalsely : Prop := netOrderRow.holds Try.pinned (OpenSpec.ofChange netOrderWrong)

/-- 'delphilaw23.NetCut': WHATEVER THE INPUT: true; the input reads as it did. -/
def netCutSpec : ChangeSpec := { name := "netCut", fn := fun _ => fun
  | [d1, d2, d3, d4] => { results := [.lit (.bool true)], args := [d1, d2, d3, d4] }
  | _ => none }
def netCutRow : OpenClaim := { program := "ytmpndjpaelcnkaa", sum := "3e513cf2d43fc1a8aca85d8bbacf0314d5fa1985825ab249c390f66a79f8c4da", func := "delphi/delphilaw23.NetCut", spec := "netCut", apart := false }
def NetCutSaid : Prop := netCutRow.holds Try.pinned (OpenSpec.ofChange netCutSpec)

/-- ITS FALSE NEIGHBOUR: 'it returns false'. Refute it at one input. -/
def netCutWrong : ChangeSpec := { name := "netCut", fn := fun _ => fun
  | [d1, d2, d3, d4] => { results := [.lit (.bool false)], args := [d1, d2, d3, d4] }
  | _ => none }
def NetCutWrongFalsely : Prop := netCutRow.holds Try.pinned (OpenSpec.ofChange netCutWrong)

/-- 'delphilaw23.NetAll': WHATEVER THE INPUT: true; the input reads as it did. -/
def netAllSpec : ChangeSpec := { name := "netAll", fn := fun _ => fun
  | [d] => { results := [.lit (.bool true)], args := [d] }
  | _ => none }
def netAllRow : OpenClaim := { program := "ytmpndjpaelcnkaa", sum := "3e513cf2d43fc1a8aca85d8bbacf0314d5fa1985825ab249c390f66a79f8c4da", func := "delphi/delphilaw23.NetAll", spec := "netAll", apart := false }
def NetAllSaid : Prop := netAllRow.holds Try.pinned (OpenSpec.ofChange netAllSpec)

/-- ITS FALSE NEIGHBOUR: 'it returns false'. Refute it at one input. -/
def netAllWrong : ChangeSpec := { name := "netAll", fn := fun _ => fun
  | [d] => { results := [.lit (.bool false)], args := [d] }
  | _ => none }
def NetAllWrongFalsely : Prop := netAllRow.holds Try.pinned (OpenSpec.ofChange netAllWrong)

/-- 'delphilaw4.WalFull': WHATEVER THE INPUT: true; the input reads as it did. -/
def walFullSpec : ChangeSpec := { name := "walFull", fn := fun _ => fun
  | [d1, d2] => { results := [.lit (.bool true)], args := [d1, d2] }
  | _ => none }
def walFullRow : OpenClaim := { program := "ytmpndjpaelcnkaa", sum := "3e513cf2d43fc1a8aca85d8bbacf0314d5fa1985825ab249c390f66a79f8c4da", func := "delphi/delphilaw4.WalFull", spec := "walFull", inPlace := ["maps.clone"], apart := false }
def WalFullSaid : Prop := walFullRow.holds Try.pinned (OpenSpec.ofChange walFullSpec)

/-- ITS FALSE NEIGHBOUR: 'it returns false'. Refute it at one input. -/
def walFullWrong : ChangeSpec := { name := "walFull", fn := fun _ => fun
  | [d1, d2] => { results := [.lit (.bool false)], args := [d1, d2] }
  | _ => none }
def WalFullWrongFalsely : Prop := walFullRow.holds Try.pinned (OpenSpec.ofChange walFullWrong)

/-- 'delphilaw4.WalAgain': WHATEVER THE INPUT: true; the input reads as it did. -/
def walAgainSpec : ChangeSpec := { name := "walAgain", fn := fun _ => fun
  | [d1, d2, d3, d4] => { results := [.lit (.bool true)], args := [d1, d2, d3, d4] }
  | _ => none }
def walAgainRow : OpenClaim := { program := "ytmpndjpaelcnkaa", sum := "3e513cf2d43fc1a8aca85d8bbacf0314d5fa1985825ab249c390f66a79f8c4da", func := "delphi/delphilaw4.WalAgain", spec := "walAgain", inPlace := ["maps.clone"], apart := false }
def WalAgainSaid : Prop := walAgainRow.holds Try.pinned (OpenSpec.ofChange walAgainSpec)

/-- ITS FALSE NEIGHBOUR: 'it returns false'. Refute it at one input. -/
def walAgainWrong : ChangeSpec := { name := "walAgain", fn := fun _ => fun
  | [d1, d2, d3, d4] => { results := [.lit (.bool false)], args := [d1, d2, d3, d4] }
  | _ => none }
def WalAgainWrongFalsely : Prop := walAgainRow.holds Try.pinned (OpenSpec.ofChange walAgainWrong)

/-- 'delphilaw4.WalAll': WHATEVER THE INPUT: true; the input reads as it did. -/
def walAllSpec : ChangeSpec := { name := "walAll", fn := fun _ => fun
  | [d] => { results := [.lit (.bool true)], args := [d] }
  | _ => none }
def walAllRow : OpenClaim := { program := "ytmpndjpaelcnkaa", sum := "3e513cf2d43fc1a8aca85d8bbacf0314d5fa1985825ab249c390f66a79f8c4da", func := "delphi/delphilaw4.WalAll", spec := "walAll", inPlace := ["maps.clone"], apart := false }
def WalAllSaid : Prop := walAllRow.holds Try.pinned (OpenSpec.ofChange walAllSpec)

/-- ITS FALSE NEIGHBOUR: 'it returns false'. Refute it at one input. -/
def walAllWrong : ChangeSpec := { name := "walAll", fn := fun _ => fun
  | [d] => { results := [.lit (.bool false)], args := [d] }
  | _ => none }
def WalAllWrongFalsely : Prop := walAllRow.holds Try.pinned (OpenSpec.ofChange walAllWrong)

/-- 'delphilaw4.WalCrash': WHATEVER THE INPUT: true; the input reads as it did. -/
def walCrashSpec : ChangeSpec := { name := "walCrash", fn := fun _ => fun
  | [d1, d2, d3, d4] => { results := [.lit (.bool true)], args := [d1, d2, d3, d4] }
  | _ => none }
def walCrashRow : OpenClaim := { program := "ytmpndjpaelcnkaa", sum := "3e513cf2d43fc1a8aca85d8bbacf0314d5fa1985825ab249c390f66a79f8c4da", func := "delphi/delphilaw4.WalCrash", spec := "walCrash", inPlace := ["maps.clone"], apart := false }
def WalCrashSaid : Prop := walCrashRow.holds Try.pinned (OpenSpec.ofChange walCrashSpec)

/-- ITS FALSE NEIGHBOUR: 'it returns false'. Refute it at one input. -/
def walCrashWrong : ChangeSpec := { name := "walCrash", fn := fun _ => fun
  | [d1, d2, d3, d4] => { results := [.lit (.bool false)], args := [d1, d2, d3, d4] }
  | _ => none }
def WalCrashWrongFalsely : Prop := walCrashRow.holds Try.pinned (OpenSpec.ofChange walCrashWrong)

/-- 'delphilaw4.WalEnds': WHATEVER THE INPUT: true; the input reads as it did. -/
def walEndsSpec : ChangeSpec := { name := "walEnds", fn := fun _ => fun
  | [d1, d2, d3, d4] => { results := [.lit (.bool true)], args := [d1, d2, d3, d4] }
  | _ => none }
def walEndsRow : OpenClaim := { program := "ytmpndjpaelcnkaa", sum := "3e513cf2d43fc1a8aca85d8bbacf0314d5fa1985825ab249c390f66a79f8c4da", func := "delphi/delphilaw4.WalEnds", spec := "walEnds", inPlace := ["maps.clone"], apart := false }
def WalEndsSaid : Prop := walEndsRow.holds Try.pinned (OpenSpec.ofChange walEndsSpec)

/-- ITS FALSE NEIGHBOUR: 'it returns false'. Refute it at one input. -/
def walEndsWrong : ChangeSpec := { name := "walEnds", fn := fun _ => fun
  | [d1, d2, d3, d4] => { results := [.lit (.bool false)], args := [d1, d2, d3, d4] }
  | _ => none }
def WalEndsWrongFalsely : Prop := walEndsRow.holds Try.pinned (OpenSpec.ofChange walEndsWrong)

/-- 'delphilaw3.DiskMany': WHATEVER THE INPUT: true; the input reads as it did. -/
def diskManySpec : ChangeSpec := { name := "diskMany", fn := fun _ => fun
  | [d] => { results := [.lit (.bool true)], args := [d] }
  | _ => none }
def diskManyRow : OpenClaim := { program := "ytmpndjpaelcnkaa", sum := "3e513cf2d43fc1a8aca85d8bbacf0314d5fa1985825ab249c390f66a79f8c4da", func := "delphi/delphilaw3.DiskMany", spec := "diskMany", inPlace := ["maps.clone"], unfollowed := true, recurses := true, apart := false }
def DiskManySaid : Prop := diskManyRow.holds Try.pinned (OpenSpec.ofChange diskManySpec)

/-- ITS FALSE NEIGHBOUR: 'it returns false'. Refute it at one input. -/
def diskManyWrong : ChangeSpec := { name := "diskMany", fn := fun _ => fun
  | [d] => { results := [.lit (.bool false)], args := [d] }
  | _ => none }
def DiskManyWrongFalsely : Prop := diskManyRow.holds Try.pinned (OpenSpec.ofChange diskManyWrong)

/-- 'delphilaw3.DiskTorn': WHATEVER THE INPUT: true; the input reads as it did. -/
def diskTornSpec : ChangeSpec := { name := "diskTorn", fn := fun _ => fun
  | [d1, d2, d3] => { results := [.lit (.bool true)], args := [d1, d2, d3] }
  | _ => none }
def diskTornRow : OpenClaim := { program := "ytmpndjpaelcnkaa", sum := "3e513cf2d43fc1a8aca85d8bbacf0314d5fa1985825ab249c390f66a79f8c4da", func := "delphi/delphilaw3.DiskTorn", spec := "diskTorn", inPlace := ["maps.clone"], unfollowed := true, recurses := true, apart := false }
def DiskTornSaid : Prop := diskTornRow.holds Try.pinned (OpenSpec.ofChange diskTornSpec)

/-- ITS FALSE NEIGHBOUR: 'it returns false'. Refute it at one input. -/
def diskTornWrong : ChangeSpec := { name := "diskTorn", fn := fun _ => fun
  | [d1, d2, d3] => { results := [.lit (.bool false)], args := [d1, d2, d3] }
  | _ => none }
def DiskTornWrongFalsely : Prop := diskTornRow.holds Try.pinned (OpenSpec.ofChange diskTornWrong)

/- THE SECOND FORM. 'bulk': how many values and letters a reading holds, each counted each time it is reached (what is shared counts as often as it is met; a slice's spare places count too). A statement '..UptoSaid' is the law's where the arguments, and the package variables that the reading takes, are together of bulk at most 1048576: NARROWER than '..Said'. Prove '..Said' where nothing that the law and all that it calls make is longer than what came in: it says more and counts as full. Else prove '..UptoSaid'. A law counts once. -/
mutual
def uptoBulk {H : Type} : DataW H → Nat
  | .lit (.string bytes) => bytes.length + 1
  | .lit _ => 1
  | .nil => 1
  | .ptr d => uptoBulk d + 1
  | .slice elems spare => uptoBulkAll elems + uptoBulkAll spare + 1
  | .agg parts => uptoBulkAll parts + 1
  | .iface _ d => uptoBulk d + 1
  | .map entries => uptoBulkEntries entries + 1
  | .held _ => 1
def uptoBulkAll {H : Type} : List (DataW H) → Nat
  | [] => 0
  | d :: r => uptoBulk d + uptoBulkAll r
def uptoBulkEntries {H : Type} : List (Lit × DataW H) → Nat
  | [] => 0
  | x :: r => uptoBulkEntry x + uptoBulkEntries r
def uptoBulkEntry {H : Type} : Lit × DataW H → Nat
  | (.string bytes, d) => bytes.length + uptoBulk d + 1
  | (_, d) => uptoBulk d + 1
 end
def uptoSmall : (H : Type) → List (DataW H) → Bool := fun _ ds => decide (uptoBulkAll ds ≤ 1048576)
def OpenSpec.upto (s : _root_.Go.ChangeSpec) : _root_.Go.OpenSpec := { _root_.Go.OpenSpec.ofChange s with cond := some uptoSmall }

/-- 'delphilaw17.CommandMsg', WHERE WHAT IT READS IS OF BULK AT MOST 1048576: true; the input reads as it did. -/
def commandMsgUptoRow : OpenClaim := { program := "ytmpndjpaelcnkaa", sum := "3e513cf2d43fc1a8aca85d8bbacf0314d5fa1985825ab249c390f66a79f8c4da", func := "delphi/delphilaw17.CommandMsg", spec := "commandMsg", apart := false, narrowed := true }
def CommandMsgUptoSaid : Prop := commandMsgUptoRow.holds Try.pinned (OpenSpec.upto commandMsgSpec)

/-- 'delphilaw25.ClientSeq', WHERE WHAT IT READS IS OF BULK AT MOST 1048576: true; the input reads as it did. -/
def clientSeqUptoRow : OpenClaim := { program := "ytmpndjpaelcnkaa", sum := "3e513cf2d43fc1a8aca85d8bbacf0314d5fa1985825ab249c390f66a79f8c4da", func := "delphi/delphilaw25.ClientSeq", spec := "clientSeq", apart := false, narrowed := true }
def ClientSeqUptoSaid : Prop := clientSeqUptoRow.holds Try.pinned (OpenSpec.upto clientSeqSpec)

/-- 'delphilaw25.ClientAll', WHERE WHAT IT READS IS OF BULK AT MOST 1048576: true; the input reads as it did. -/
def clientAllUptoRow : OpenClaim := { program := "ytmpndjpaelcnkaa", sum := "3e513cf2d43fc1a8aca85d8bbacf0314d5fa1985825ab249c390f66a79f8c4da", func := "delphi/delphilaw25.ClientAll", spec := "clientAll", apart := false, narrowed := true }
def ClientAllUptoSaid : Prop := clientAllUptoRow.holds Try.pinned (OpenSpec.upto clientAllSpec)

/-- 'delphilaw23.NetMany', WHERE WHAT IT READS IS OF BULK AT MOST 1048576: true; the input reads as it did. -/
def netManyUptoRow : OpenClaim := { program := "ytmpndjpaelcnkaa", sum := "3e513cf2d43fc1a8aca85d8bbacf0314d5fa1985825ab249c390f66a79f8c4da", func := "delphi/delphilaw23.NetMany", spec := "netMany", apart := false, narrowed := true }
def NetManyUptoSaid : Prop := netManyUptoRow.holds Try.pinned (OpenSpec.upto netManySpec)

/-- 'delphilaw23.NetOrder', WHERE WHAT IT READS IS OF BULK AT MOST 1048576: true; the input reads as it did. -/
def netOrderUptoRow : OpenClaim := { program := "ytmpndjpaelcnkaa", sum := "3e513cf2d43fc1a8aca85d8bbacf0314d5fa1985825ab249c390f66a79f8c4da", func := "delphi/delphilaw23.NetOrder", spec := "netOrder", apart := false, narrowed := true }
def NetOrderUptoSaid : Prop := netOrderUptoRow.holds Try.pinned (OpenSpec.upto netOrderSpec)

/-- 'delphilaw23.NetCut', WHERE WHAT IT READS IS OF BULK AT MOST 1048576: true; the input reads as it did. -/
def netCutUptoRow : OpenClaim := { program := "ytmpndjpaelcnkaa", sum := "3e513cf2d43fc1a8aca85d8bbacf0314d5fa1985825ab249c390f66a79f8c4da", func := "delphi/delphilaw23.NetCut", spec := "netCut", apart := false, narrowed := true }
def NetCutUptoSaid : Prop := netCutUptoRow.holds Try.pinned (OpenSpec.upto netCutSpec)

/-- 'delphilaw23.NetAll', WHERE WHAT IT READS IS OF BULK AT MOST 1048576: true; the input reads as it did. -/
def netAllUptoRow : OpenClaim := { program := "ytmpndjpaelcnkaa", sum := "3e513cf2d43fc1a8aca85d8bbacf0314d5fa1985825ab249c390f66a79f8c4da", func := "delphi/delphilaw23.NetAll", spec := "netAll", apart := false, narrowed := true }
def NetAllUptoSaid : Prop := netAllUptoRow.holds Try.pinned (OpenSpec.upto netAllSpec)

/-- 'delphilaw4.WalFull', WHERE WHAT IT READS IS OF BULK AT MOST 1048576: true; the input reads as it did. -/
def walFullUptoRow : OpenClaim := { program := "ytmpndjpaelcnkaa", sum := "3e513cf2d43fc1a8aca85d8bbacf0314d5fa1985825ab249c390f66a79f8c4da", func := "delphi/delphilaw4.WalFull", spec := "walFull", inPlace := ["maps.clone"], apart := false, narrowed := true }
def WalFullUptoSaid : Prop := walFullUptoRow.holds Try.pinned (OpenSpec.upto walFullSpec)

/-- 'delphilaw4.WalAgain', WHERE WHAT IT READS IS OF BULK AT MOST 1048576: true; the input reads as it did. -/
def walAgainUptoRow : OpenClaim := { program := "ytmpndjpaelcnkaa", sum := "3e513cf2d43fc1a8aca85d8bbacf0314d5fa1985825ab249c390f66a79f8c4da", func := "delphi/delphilaw4.WalAgain", spec := "walAgain", inPlace := ["maps.clone"], apart := false, narrowed := true }
def WalAgainUptoSaid : Prop := walAgainUptoRow.holds Try.pinned (OpenSpec.upto walAgainSpec)

/-- 'delphilaw4.WalAll', WHERE WHAT IT READS IS OF BULK AT MOST 1048576: true; the input reads as it did. -/
def walAllUptoRow : OpenClaim := { program := "ytmpndjpaelcnkaa", sum := "3e513cf2d43fc1a8aca85d8bbacf0314d5fa1985825ab249c390f66a79f8c4da", func := "delphi/delphilaw4.WalAll", spec := "walAll", inPlace := ["maps.clone"], apart := false, narrowed := true }
def WalAllUptoSaid : Prop := walAllUptoRow.holds Try.pinned (OpenSpec.upto walAllSpec)

/-- 'delphilaw4.WalCrash', WHERE WHAT IT READS IS OF BULK AT MOST 1048576: true; the input reads as it did. -/
def walCrashUptoRow : OpenClaim := { program := "ytmpndjpaelcnkaa", sum := "3e513cf2d43fc1a8aca85d8bbacf0314d5fa1985825ab249c390f66a79f8c4da", func := "delphi/delphilaw4.WalCrash", spec := "walCrash", inPlace := ["maps.clone"], apart := false, narrowed := true }
def WalCrashUptoSaid : Prop := walCrashUptoRow.holds Try.pinned (OpenSpec.upto walCrashSpec)

/-- 'delphilaw4.WalEnds', WHERE WHAT IT READS IS OF BULK AT MOST 1048576: true; the input reads as it did. -/
def walEndsUptoRow : OpenClaim := { program := "ytmpndjpaelcnkaa", sum := "3e513cf2d43fc1a8aca85d8bbacf0314d5fa1985825ab249c390f66a79f8c4da", func := "delphi/delphilaw4.WalEnds", spec := "walEnds", inPlace := ["maps.clone"], apart := false, narrowed := true }
def WalEndsUptoSaid : Prop := walEndsUptoRow.holds Try.pinned (OpenSpec.upto walEndsSpec)

/-- 'delphilaw3.DiskMany', WHERE WHAT IT READS IS OF BULK AT MOST 1048576: true; the input reads as it did. -/
def diskManyUptoRow : OpenClaim := { program := "ytmpndjpaelcnkaa", sum := "3e513cf2d43fc1a8aca85d8bbacf0314d5fa1985825ab249c390f66a79f8c4da", func := "delphi/delphilaw3.DiskMany", spec := "diskMany", inPlace := ["maps.clone"], unfollowed := true, recurses := true, apart := false, narrowed := true }
def DiskManyUptoSaid : Prop := diskManyUptoRow.holds Try.pinned (OpenSpec.upto diskManySpec)

/-- 'delphilaw3.DiskTorn', WHERE WHAT IT READS IS OF BULK AT MOST 1048576: true; the input reads as it did. -/
def diskTornUptoRow : OpenClaim := { program := "ytmpndjpaelcnkaa", sum := "3e513cf2d43fc1a8aca85d8bbacf0314d5fa1985825ab249c390f66a79f8c4da", func := "delphi/delphilaw3.DiskTorn", spec := "diskTorn", inPlace := ["maps.clone"], unfollowed := true, recurses := true, apart := false, narrowed := true }
def DiskTornUptoSaid : Prop := diskTornUptoRow.holds Try.pinned (OpenSpec.upto diskTornSpec)

end Rows
end Go.Proofs.Ytmpndjpaelcnkaa
