/- WHAT PACKAGE-LEVEL VARIABLES HOLD FROM THE START,in the program of the journals: errSyntax (0) a sentinel,the powers of ten (1),bytealg.MaxLen (2) some number,strconv's ErrSyntax (5) and ErrRange (6) some errors. -/
import Derived.Test.YtgieggnpnepkfaaGreatDoorData
import Derived.Lib.ItoaNum
namespace Go.D3
open Go
def gl:Nat→Option D
 | 0=>some (.ptr [.ifc 229 (.sent 0)])
 | _=>none
structure GOk (w:World) (A:Nat→Prop):Prop where
 gl:∀ (g:Nat) (d:D),gl g=some d→Rd w A (.pointer (some ⟨g,0,none⟩)) d
 pow:∃ t fz,w.heap[1]?=some (.cells (Lib.pow10Tab.map fun z=>Value.int .u64 z).toArray t fz)∧A 1
 maxLen:∃ m,w.cell? ⟨2,0,none⟩=some (.int .i64 m)∧A 2
 syn:∃ t v,w.cell? ⟨5,0,none⟩=some (.iface t v)∧A 5
 rng:∃ t v,w.cell? ⟨6,0,none⟩=some (.iface t v)∧A 6
theorem GOk.mono {w w':World} {A A':Nat→Prop} (h:GOk w A) (hA:∀ b,A b→A' b) (hw:∀ b,A b→w'.heap[b]?=w.heap[b]?):GOk w' A':=by
 obtain ⟨h1,⟨t,fz,h2,a2⟩,⟨m,h3,a3⟩,⟨t5,v5,h5,a5⟩,⟨t6,v6,h6,a6⟩⟩:=h
 exact ⟨fun g d hd=>(h1 g d hd).mono hA hw,⟨t,fz,by rw [hw 1 a2];exact h2,hA _ a2⟩,⟨m,by rw [cell_of_heap (hw 2 a3)];exact h3,hA _ a3⟩,⟨t5,v5,by rw [cell_of_heap (hw 5 a5)];exact h5,hA _ a5⟩,⟨t6,v6,by rw [cell_of_heap (hw 6 a6)];exact h6,hA _ a6⟩⟩
end Go.D3
