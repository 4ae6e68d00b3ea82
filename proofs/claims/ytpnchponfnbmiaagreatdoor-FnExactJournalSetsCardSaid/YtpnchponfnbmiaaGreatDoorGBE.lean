/- THE FIRST STEPS OF (journalText).read, walked. -/
import Derived.Test.YtpnchponfnbmiaaGreatDoorChecked
import Derived.Tactics
import Derived.Tactics2
import Derived.Defers
import Derived.Laws.Pointers
import Derived.RegionTactic
import Derived.RegionCalls
import Derived.Laws.NewBlocks
namespace Go.D3
open Go Proofs
set_option maxRecDepth 100000
set_option maxHeartbeats 4000000
theorem WT(b0 b1 b2:Nat)(n:Int)(x:Value)(u:FrameMode)(w:World)(h0:w.cell? ⟨b0,0,none⟩=some (.pointer (some ⟨b1,0,none⟩)))(h2:w.cell? ⟨b2,0,none⟩=some (.int .i64 n))(h1:w.cell? ⟨b1,7,none⟩=some x)(hz:w.frozen? ⟨b1,7,none⟩=false) :
  CallsD Tryz.prog 131 #[.pointer (some ⟨b2,0,none⟩),.pointer (some ⟨b0,0,none⟩)] u w fun e u' w'=>u'=u/\(e=.returned (.tuple #[])/\w'=w.setCell ⟨b1,7,none⟩ (.int .i64 n)):=by
 go_enter_d Tryz.func131,Tryz.ntmps131
 go_wp2
 go_end0
 exact⟨rfl,rfl⟩
end Go.D3
namespace Go.D3
open Go Proofs
set_option maxRecDepth 100000
set_option maxHeartbeats 4000000
theorem Ot(w:World):Sem.run Tryz.prog (Instr.build 118 #[]) w=.ok (.agg #[.int .i64 0,.slice none 0 0,.slice none 0 0,.slice none 0 0,.slice none 0 0,.slice none 0 0,.slice none 0 0,.int .i64 0]) w:=by
 first | rfl | kernel_rfl | (simp[go_sem];rfl) | (go_simp;rfl)
def nO:Array Value:=#[.int .i64 0,.slice none 0 0,.slice none 0 0,.slice none 0 0,.slice none 0 0,.slice none 0 0,.slice none 0 0,.int .i64 0]
theorem On(w:World):Sem.run Tryz.prog (Instr.box 118 (.agg #[.int .i64 0,.slice none 0 0,.slice none 0 0,.slice none 0 0,.slice none 0 0,.slice none 0 0,.slice none 0 0,.int .i64 0])) w=.ok (.pointer (some ⟨w.heap.size,0,none⟩)) (w.alloc (.cells #[.int .i64 0,.slice none 0 0,.slice none 0 0,.slice none 0 0,.slice none 0 0,.slice none 0 0,.slice none 0 0,.int .i64 0] 118)):=by
 first | rfl | kernel_rfl | (simp[go_sem];rfl) | (go_simp;rfl)
theorem R5(w:World)(x y:Value):Sem.run Tryz.prog (Instr.makeFunc (.func 131) #[] #[x,y]) w=.ok (.func (.func 131) #[] #[x,y]) w:=by
 first | rfl | kernel_rfl | (simp[go_sem];rfl) | (go_simp;rfl)
theorem aaU(w:World):((w.alloc (.cells #[.pointer none] 112)).alloc (.cells nO 118)).cell? ⟨w.heap.size,0,none⟩=some (.pointer none):=by
 rw[World.cell?_alloc_past _ _ _ (show w.heap.size<(w.heap.push _).size by rw[Array.size_push];omega),World.cell?_alloc_at _ _ _ _ rfl];rfl
theorem aaV(w:World):((w.alloc (.cells #[.pointer none] 112)).alloc (.cells nO 118)).frozen? ⟨w.heap.size,0,none⟩=false:=by
 rw[World.frozen?_alloc_past _ _ _ (show w.heap.size<(w.heap.push _).size by rw[Array.size_push];omega),World.frozen?_alloc_at _ _ _ _ rfl]
end Go.D3
