/-
  No cell of these rows narrows 'for every input' (looked for: loops, veiled, ifaces, maps, wideKeys, modest, calm, conditions, laid).
  DERIVED. THE GIVEN ROWS OF THIS SEAT. 8 by the template 'for every input the law returns true; each argument reads behind the call as it read before'; 0 by the template 'total and deterministic' (their statements: YtclmdejmogmifaaTotals.lean).
  GIVEN WITH THE SEED: the statements are not yours to turn. If you find one false, say at which input.
  Laid BY PROGRAM, IN A SANDBOX (cutbox-rows.mjs): the forced cells as the released guide's own fill.sh prints them over the translation 8ef14e2c369a1a24… (all of the seat's roots in one cut). By AI agents, Wed Nov 11 2026. No macro, syntax, notation, axiom, sorry.
-/
import Derived.Test.YtclmdejmogmifaaChecked
import GoSem.Claim
import GoSem.ClaimJoined
import GoSem.ClaimMapViews
import Derived.JoinedTies
import Derived.KernelRfl
namespace Go.Proofs.Ytclmdejmogmifaa
/- THE CELL 'sum', in the pinned program and in every row, IS THE sha256 OF THE DUMP (.gsa) THAT YtclmdejmogmifaaProg.lean LOADS. Nothing in Lean hashes anything: it is a label: what it is worth is what the hold of that sum in a sandbox is worth. -/
noncomputable def Try.pinned : Pinned := { name := "ytclmdejmogmifaa", sum := "8ef14e2c369a1a24dbd3c0f4d7dd9722bf875a63278a6e36fcbde9ff914cd3fd", checked := Try.checked }
namespace Rows
def none {H : Type} : Left H := { results := [], args := [] }

/-- 'laws.FnExactAreBound': WHATEVER THE INPUT: true; the input reads as it did. -/
def fnExactAreBoundSpec : ChangeSpec := { name := "fnExactAreBound", fn := fun _ => fun
  | [d] => { results := [.lit (.bool true)], args := [d] }
  | _ => none }
def fnExactAreBoundRow : OpenClaim := { program := "ytclmdejmogmifaa", sum := "8ef14e2c369a1a24dbd3c0f4d7dd9722bf875a63278a6e36fcbde9ff914cd3fd", func := "loop.example/g01083/laws.FnExactAreBound", spec := "fnExactAreBound", apart := false }
def FnExactAreBoundSaid : Prop := fnExactAreBoundRow.holds Try.pinned (OpenSpec.ofChange fnExactAreBoundSpec)

/-- ITS FALSE NEIGHBOUR: 'it returns false'. Refute it at one input. -/
def fnExactAreBoundWrong : ChangeSpec := { name := "fnExactAreBound", fn := fun _ => fun
  | [d] => { results := [.lit (.bool false)], args := [d] }
  | _ => none }
def FnExactAreBoundWrongFalsely : Prop := fnExactAreBoundRow.holds Try.pinned (OpenSpec.ofChange fnExactAreBoundWrong)

/-- 'laws.FnExactCountFunctors': WHATEVER THE INPUT: true; the input reads as it did. -/
def fnExactCountFunctorsSpec : ChangeSpec := { name := "fnExactCountFunctors", fn := fun _ => fun
  | [d1, d2] => { results := [.lit (.bool true)], args := [d1, d2] }
  | _ => none }
def fnExactCountFunctorsRow : OpenClaim := { program := "ytclmdejmogmifaa", sum := "8ef14e2c369a1a24dbd3c0f4d7dd9722bf875a63278a6e36fcbde9ff914cd3fd", func := "loop.example/g01083/laws.FnExactCountFunctors", spec := "fnExactCountFunctors", unfollowed := true, recurses := true, apart := false }
def FnExactCountFunctorsSaid : Prop := fnExactCountFunctorsRow.holds Try.pinned (OpenSpec.ofChange fnExactCountFunctorsSpec)

/-- ITS FALSE NEIGHBOUR: 'it returns false'. Refute it at one input. -/
def fnExactCountFunctorsWrong : ChangeSpec := { name := "fnExactCountFunctors", fn := fun _ => fun
  | [d1, d2] => { results := [.lit (.bool false)], args := [d1, d2] }
  | _ => none }
def FnExactCountFunctorsWrongFalsely : Prop := fnExactCountFunctorsRow.holds Try.pinned (OpenSpec.ofChange fnExactCountFunctorsWrong)

/-- 'laws.FnExactRepresentable': WHATEVER THE INPUT: true; the input reads as it did. -/
def fnExactRepresentableSpec : ChangeSpec := { name := "fnExactRepresentable", fn := fun _ => fun
  | [d1, d2] => { results := [.lit (.bool true)], args := [d1, d2] }
  | _ => none }
def fnExactRepresentableRow : OpenClaim := { program := "ytclmdejmogmifaa", sum := "8ef14e2c369a1a24dbd3c0f4d7dd9722bf875a63278a6e36fcbde9ff914cd3fd", func := "loop.example/g01083/laws.FnExactRepresentable", spec := "fnExactRepresentable", inPlace := ["sync/atomic.LoadUint32", "(*internal/sync.Mutex).Lock", "internal/race.Disable", "sync/atomic.CompareAndSwapInt32", "internal/race.Enable", "internal/race.Acquire", "(*internal/sync.Mutex).lockSlow", "internal/sync.runtime_canSpin", "internal/sync.runtime_doSpin", "internal/sync.throw", "internal/sync.runtime_nanotime", "internal/sync.runtime_SemacquireMutex", "sync/atomic.AddInt32", "(*internal/sync.Mutex).Unlock", "internal/race.ReleaseMerge", "(*internal/sync.Mutex).unlockSlow", "internal/sync.fatal", "internal/sync.runtime_Semrelease", "sync/atomic.StoreUint32"], unfollowed := true, recurses := true, apart := false }
def FnExactRepresentableSaid : Prop := fnExactRepresentableRow.holds Try.pinned (OpenSpec.ofChange fnExactRepresentableSpec)

/-- ITS FALSE NEIGHBOUR: 'it returns false'. Refute it at one input. -/
def fnExactRepresentableWrong : ChangeSpec := { name := "fnExactRepresentable", fn := fun _ => fun
  | [d1, d2] => { results := [.lit (.bool false)], args := [d1, d2] }
  | _ => none }
def FnExactRepresentableWrongFalsely : Prop := fnExactRepresentableRow.holds Try.pinned (OpenSpec.ofChange fnExactRepresentableWrong)

/-- 'laws.FnExactArrowCategory': WHATEVER THE INPUT: true; the input reads as it did. -/
def fnExactArrowCategorySpec : ChangeSpec := { name := "fnExactArrowCategory", fn := fun _ => fun
  | [d] => { results := [.lit (.bool true)], args := [d] }
  | _ => none }
def fnExactArrowCategoryRow : OpenClaim := { program := "ytclmdejmogmifaa", sum := "8ef14e2c369a1a24dbd3c0f4d7dd9722bf875a63278a6e36fcbde9ff914cd3fd", func := "loop.example/g01083/laws.FnExactArrowCategory", spec := "fnExactArrowCategory", unfollowed := true, recurses := true, apart := false }
def FnExactArrowCategorySaid : Prop := fnExactArrowCategoryRow.holds Try.pinned (OpenSpec.ofChange fnExactArrowCategorySpec)

/-- ITS FALSE NEIGHBOUR: 'it returns false'. Refute it at one input. -/
def fnExactArrowCategoryWrong : ChangeSpec := { name := "fnExactArrowCategory", fn := fun _ => fun
  | [d] => { results := [.lit (.bool false)], args := [d] }
  | _ => none }
def FnExactArrowCategoryWrongFalsely : Prop := fnExactArrowCategoryRow.holds Try.pinned (OpenSpec.ofChange fnExactArrowCategoryWrong)

/-- 'laws.FnExactArrowMap': WHATEVER THE INPUT: true; the input reads as it did. -/
def fnExactArrowMapSpec : ChangeSpec := { name := "fnExactArrowMap", fn := fun _ => fun
  | [d1, d2] => { results := [.lit (.bool true)], args := [d1, d2] }
  | _ => none }
def fnExactArrowMapRow : OpenClaim := { program := "ytclmdejmogmifaa", sum := "8ef14e2c369a1a24dbd3c0f4d7dd9722bf875a63278a6e36fcbde9ff914cd3fd", func := "loop.example/g01083/laws.FnExactArrowMap", spec := "fnExactArrowMap", inPlace := ["sync/atomic.LoadUint32", "(*internal/sync.Mutex).Lock", "internal/race.Disable", "sync/atomic.CompareAndSwapInt32", "internal/race.Enable", "internal/race.Acquire", "(*internal/sync.Mutex).lockSlow", "internal/sync.runtime_canSpin", "internal/sync.runtime_doSpin", "internal/sync.throw", "internal/sync.runtime_nanotime", "internal/sync.runtime_SemacquireMutex", "sync/atomic.AddInt32", "(*internal/sync.Mutex).Unlock", "internal/race.ReleaseMerge", "(*internal/sync.Mutex).unlockSlow", "internal/sync.fatal", "internal/sync.runtime_Semrelease", "sync/atomic.StoreUint32"], unfollowed := true, recurses := true, apart := false }
def FnExactArrowMapSaid : Prop := fnExactArrowMapRow.holds Try.pinned (OpenSpec.ofChange fnExactArrowMapSpec)

/-- ITS FALSE NEIGHBOUR: 'it returns false'. Refute it at one input. -/
def fnExactArrowMapWrong : ChangeSpec := { name := "fnExactArrowMap", fn := fun _ => fun
  | [d1, d2] => { results := [.lit (.bool false)], args := [d1, d2] }
  | _ => none }
def FnExactArrowMapWrongFalsely : Prop := fnExactArrowMapRow.holds Try.pinned (OpenSpec.ofChange fnExactArrowMapWrong)

/-- 'laws.FnExactGlobalSections': WHATEVER THE INPUT: true; the input reads as it did. -/
def fnExactGlobalSectionsSpec : ChangeSpec := { name := "fnExactGlobalSections", fn := fun _ => fun
  | [d] => { results := [.lit (.bool true)], args := [d] }
  | _ => none }
def fnExactGlobalSectionsRow : OpenClaim := { program := "ytclmdejmogmifaa", sum := "8ef14e2c369a1a24dbd3c0f4d7dd9722bf875a63278a6e36fcbde9ff914cd3fd", func := "loop.example/g01083/laws.FnExactGlobalSections", spec := "fnExactGlobalSections", unfollowed := true, recurses := true, apart := false }
def FnExactGlobalSectionsSaid : Prop := fnExactGlobalSectionsRow.holds Try.pinned (OpenSpec.ofChange fnExactGlobalSectionsSpec)

/-- ITS FALSE NEIGHBOUR: 'it returns false'. Refute it at one input. -/
def fnExactGlobalSectionsWrong : ChangeSpec := { name := "fnExactGlobalSections", fn := fun _ => fun
  | [d] => { results := [.lit (.bool false)], args := [d] }
  | _ => none }
def FnExactGlobalSectionsWrongFalsely : Prop := fnExactGlobalSectionsRow.holds Try.pinned (OpenSpec.ofChange fnExactGlobalSectionsWrong)

/-- 'laws.FnExactAllFunctors': WHATEVER THE INPUT: true; the input reads as it did. -/
def fnExactAllFunctorsSpec : ChangeSpec := { name := "fnExactAllFunctors", fn := fun _ => fun
  | [d1, d2] => { results := [.lit (.bool true)], args := [d1, d2] }
  | _ => none }
def fnExactAllFunctorsRow : OpenClaim := { program := "ytclmdejmogmifaa", sum := "8ef14e2c369a1a24dbd3c0f4d7dd9722bf875a63278a6e36fcbde9ff914cd3fd", func := "loop.example/g01083/laws.FnExactAllFunctors", spec := "fnExactAllFunctors", unfollowed := true, recurses := true, apart := false }
def FnExactAllFunctorsSaid : Prop := fnExactAllFunctorsRow.holds Try.pinned (OpenSpec.ofChange fnExactAllFunctorsSpec)

/-- ITS FALSE NEIGHBOUR: 'it returns false'. Refute it at one input. -/
def fnExactAllFunctorsWrong : ChangeSpec := { name := "fnExactAllFunctors", fn := fun _ => fun
  | [d1, d2] => { results := [.lit (.bool false)], args := [d1, d2] }
  | _ => none }
def FnExactAllFunctorsWrongFalsely : Prop := fnExactAllFunctorsRow.holds Try.pinned (OpenSpec.ofChange fnExactAllFunctorsWrong)

/-- 'laws.FnExactCountAutomorphisms': WHATEVER THE INPUT: true; the input reads as it did. -/
def fnExactCountAutomorphismsSpec : ChangeSpec := { name := "fnExactCountAutomorphisms", fn := fun _ => fun
  | [d] => { results := [.lit (.bool true)], args := [d] }
  | _ => none }
def fnExactCountAutomorphismsRow : OpenClaim := { program := "ytclmdejmogmifaa", sum := "8ef14e2c369a1a24dbd3c0f4d7dd9722bf875a63278a6e36fcbde9ff914cd3fd", func := "loop.example/g01083/laws.FnExactCountAutomorphisms", spec := "fnExactCountAutomorphisms", unfollowed := true, recurses := true, apart := false }
def FnExactCountAutomorphismsSaid : Prop := fnExactCountAutomorphismsRow.holds Try.pinned (OpenSpec.ofChange fnExactCountAutomorphismsSpec)

/-- ITS FALSE NEIGHBOUR: 'it returns false'. Refute it at one input. -/
def fnExactCountAutomorphismsWrong : ChangeSpec := { name := "fnExactCountAutomorphisms", fn := fun _ => fun
  | [d] => { results := [.lit (.bool false)], args := [d] }
  | _ => none }
def FnExactCountAutomorphismsWrongFalsely : Prop := fnExactCountAutomorphismsRow.holds Try.pinned (OpenSpec.ofChange fnExactCountAutomorphismsWrong)

/- THE SECOND FORM. 'bulk': how many values and letters a reading holds, each counted each time it is reached (what is shared counts as often as it is met; a slice's spare places count too). A statement '..UptoSaid' is the law's where the arguments, and the package variables that the reading takes, are together of bulk at most 1048576: NARROWER than '..Said'. Prove '..Said' where nothing that the law and all that it calls make is longer than what came in: it says more and counts as full. Else prove '..UptoSaid'. A law counts once. -/
mutual
def uptoBulk {H : Type} : DataW H → Nat
  | .lit (.string bytes) => bytes.length + 1
  | .lit _ => 1
  | .nil => 1
  | .ptr d => uptoBulk d + 1
  | .slice elems spare => uptoBulkAll elems + uptoBulkAll spare + 1
  | .agg parts => uptoBulkAll parts + 1
  | .iface _ d => uptoBulk d + 1
  | .map entries => uptoBulkEntries entries + 1
  | .held _ => 1
def uptoBulkAll {H : Type} : List (DataW H) → Nat
  | [] => 0
  | d :: r => uptoBulk d + uptoBulkAll r
def uptoBulkEntries {H : Type} : List (Lit × DataW H) → Nat
  | [] => 0
  | x :: r => uptoBulkEntry x + uptoBulkEntries r
def uptoBulkEntry {H : Type} : Lit × DataW H → Nat
  | (.string bytes, d) => bytes.length + uptoBulk d + 1
  | (_, d) => uptoBulk d + 1
 end
def uptoSmall : (H : Type) → List (DataW H) → Bool := fun _ ds => decide (uptoBulkAll ds ≤ 1048576)
def OpenSpec.upto (s : _root_.Go.ChangeSpec) : _root_.Go.OpenSpec := { _root_.Go.OpenSpec.ofChange s with cond := some uptoSmall }

/-- 'laws.FnExactAreBound', WHERE WHAT IT READS IS OF BULK AT MOST 1048576: true; the input reads as it did. -/
def fnExactAreBoundUptoRow : OpenClaim := { program := "ytclmdejmogmifaa", sum := "8ef14e2c369a1a24dbd3c0f4d7dd9722bf875a63278a6e36fcbde9ff914cd3fd", func := "loop.example/g01083/laws.FnExactAreBound", spec := "fnExactAreBound", apart := false, narrowed := true }
def FnExactAreBoundUptoSaid : Prop := fnExactAreBoundUptoRow.holds Try.pinned (OpenSpec.upto fnExactAreBoundSpec)

/-- 'laws.FnExactCountFunctors', WHERE WHAT IT READS IS OF BULK AT MOST 1048576: true; the input reads as it did. -/
def fnExactCountFunctorsUptoRow : OpenClaim := { program := "ytclmdejmogmifaa", sum := "8ef14e2c369a1a24dbd3c0f4d7dd9722bf875a63278a6e36fcbde9ff914cd3fd", func := "loop.example/g01083/laws.FnExactCountFunctors", spec := "fnExactCountFunctors", unfollowed := true, recurses := true, apart := false, narrowed := true }
def FnExactCountFunctorsUptoSaid : Prop := fnExactCountFunctorsUptoRow.holds Try.pinned (OpenSpec.upto fnExactCountFunctorsSpec)

/-- 'laws.FnExactRepresentable', WHERE WHAT IT READS IS OF BULK AT MOST 1048576: true; the input reads as it did. -/
def fnExactRepresentableUptoRow : OpenClaim := { program := "ytclmdejmogmifaa", sum := "8ef14e2c369a1a24dbd3c0f4d7dd9722bf875a63278a6e36fcbde9ff914cd3fd", func := "loop.example/g01083/laws.FnExactRepresentable", spec := "fnExactRepresentable", inPlace := ["sync/atomic.LoadUint32", "(*internal/sync.Mutex).Lock", "internal/race.Disable", "sync/atomic.CompareAndSwapInt32", "internal/race.Enable", "internal/race.Acquire", "(*internal/sync.Mutex).lockSlow", "internal/sync.runtime_canSpin", "internal/sync.runtime_doSpin", "internal/sync.throw", "internal/sync.runtime_nanotime", "internal/sync.runtime_SemacquireMutex", "sync/atomic.AddInt32", "(*internal/sync.Mutex).Unlock", "internal/race.ReleaseMerge", "(*internal/sync.Mutex).unlockSlow", "internal/sync.fatal", "internal/sync.runtime_Semrelease", "sync/atomic.StoreUint32"], unfollowed := true, recurses := true, apart := false, narrowed := true }
def FnExactRepresentableUptoSaid : Prop := fnExactRepresentableUptoRow.holds Try.pinned (OpenSpec.upto fnExactRepresentableSpec)

/-- 'laws.FnExactArrowCategory', WHERE WHAT IT READS IS OF BULK AT MOST 1048576: true; the input reads as it did. -/
def fnExactArrowCategoryUptoRow : OpenClaim := { program := "ytclmdejmogmifaa", sum := "8ef14e2c369a1a24dbd3c0f4d7dd9722bf875a63278a6e36fcbde9ff914cd3fd", func := "loop.example/g01083/laws.FnExactArrowCategory", spec := "fnExactArrowCategory", unfollowed := true, recurses := true, apart := false, narrowed := true }
def FnExactArrowCategoryUptoSaid : Prop := fnExactArrowCategoryUptoRow.holds Try.pinned (OpenSpec.upto fnExactArrowCategorySpec)

/-- 'laws.FnExactArrowMap', WHERE WHAT IT READS IS OF BULK AT MOST 1048576: true; the input reads as it did. -/
def fnExactArrowMapUptoRow : OpenClaim := { program := "ytclmdejmogmifaa", sum := "8ef14e2c369a1a24dbd3c0f4d7dd9722bf875a63278a6e36fcbde9ff914cd3fd", func := "loop.example/g01083/laws.FnExactArrowMap", spec := "fnExactArrowMap", inPlace := ["sync/atomic.LoadUint32", "(*internal/sync.Mutex).Lock", "internal/race.Disable", "sync/atomic.CompareAndSwapInt32", "internal/race.Enable", "internal/race.Acquire", "(*internal/sync.Mutex).lockSlow", "internal/sync.runtime_canSpin", "internal/sync.runtime_doSpin", "internal/sync.throw", "internal/sync.runtime_nanotime", "internal/sync.runtime_SemacquireMutex", "sync/atomic.AddInt32", "(*internal/sync.Mutex).Unlock", "internal/race.ReleaseMerge", "(*internal/sync.Mutex).unlockSlow", "internal/sync.fatal", "internal/sync.runtime_Semrelease", "sync/atomic.StoreUint32"], unfollowed := true, recurses := true, apart := false, narrowed := true }
def FnExactArrowMapUptoSaid : Prop := fnExactArrowMapUptoRow.holds Try.pinned (OpenSpec.upto fnExactArrowMapSpec)

/-- 'laws.FnExactGlobalSections', WHERE WHAT IT READS IS OF BULK AT MOST 1048576: true; the input reads as it did. -/
def fnExactGlobalSectionsUptoRow : OpenClaim := { program := "ytclmdejmogmifaa", sum := "8ef14e2c369a1a24dbd3c0f4d7dd9722bf875a63278a6e36fcbde9ff914cd3fd", func := "loop.example/g01083/laws.FnExactGlobalSections", spec := "fnExactGlobalSections", unfollowed := true, recurses := true, apart := false, narrowed := true }
def FnExactGlobalSectionsUptoSaid : Prop := fnExactGlobalSectionsUptoRow.holds Try.pinned (OpenSpec.upto fnExactGlobalSectionsSpec)

/-- 'laws.FnExactAllFunctors', WHERE WHAT IT READS IS OF BULK AT MOST 1048576: true; the input reads as it did. -/
def fnExactAllFunctorsUptoRow : OpenClaim := { program := "ytclmdejmogmifaa", sum := "8ef14e2c369a1a24dbd3c0f4d7dd9722bf875a63278a6e36fcbde9ff914cd3fd", func := "loop.example/g01083/laws.FnExactAllFunctors", spec := "fnExactAllFunctors", unfollowed := true, recurses := true, apart := false, narrowed := true }
def FnExactAllFunctorsUptoSaid : Prop := fnExactAllFunctorsUptoRow.holds Try.pinned (OpenSpec.upto fnExactAllFunctorsSpec)

/-- 'laws.FnExactCountAutomorphisms', WHERE WHAT IT READS IS OF BULK AT MOST 1048576: true; the input reads as it did. -/
def fnExactCountAutomorphismsUptoRow : OpenClaim := { program := "ytclmdejmogmifaa", sum := "8ef14e2c369a1a24dbd3c0f4d7dd9722bf875a63278a6e36fcbde9ff914cd3fd", func := "loop.example/g01083/laws.FnExactCountAutomorphisms", spec := "fnExactCountAutomorphisms", unfollowed := true, recurses := true, apart := false, narrowed := true }
def FnExactCountAutomorphismsUptoSaid : Prop := fnExactCountAutomorphismsUptoRow.holds Try.pinned (OpenSpec.upto fnExactCountAutomorphismsSpec)

end Rows
end Go.Proofs.Ytclmdejmogmifaa
