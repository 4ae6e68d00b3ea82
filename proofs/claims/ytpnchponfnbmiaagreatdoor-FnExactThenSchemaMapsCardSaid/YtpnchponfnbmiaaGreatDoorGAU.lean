/- CONTRACTS: numbers that are read, both sides. -/
import Derived.Test.YtpnchponfnbmiaaGreatDoorGAT
import Derived.Test.YtpnchponfnbmiaaGreatDoorGAS
import Derived.Laws.RangeAny
namespace Go.D3
open Go Go.RowKit Go.Extern.Stop Go.Stop Go.Extern
set_option maxRecDepth 100000
end Go.D3
namespace Go.D3
open Go Go.RowKit
set_option maxRecDepth 100000
end Go.D3
namespace Go.D3
open Go
set_option maxHeartbeats 4000000
set_option maxRecDepth 100000
def fO(b:UInt8):Bool:=decide (48<=b.toNat)&&decide (b.toNat<=57)
def lK(n:Nat)(s:List UInt8):Nat:=s.foldl (fun n b=>10*n+(b.toNat-48)) n
def pM(most:Nat)(s:List UInt8):Option Nat:=if(!s.isEmpty&&decide (s.length<=most)&&!(decide (1<s.length)&&s.getD 0 0 == 48)&&s.all fO)=true then some (lK 0 s) else none
theorem VO{b:UInt8}{s:List UInt8}{n:Nat}:lK n (s++[b])=10*lK n s+(b.toNat-48):=by unfold lK;rw[List.foldl_append,List.foldl_cons,List.foldl_nil]
theorem VN{b:UInt8}{s:List UInt8}{n:Nat}:lK n (b::s)=lK (10*n+(b.toNat-48)) s:=by unfold lK;rw[List.foldl_cons]
theorem O8{most:Nat}{s:List UInt8}(h0:s≠[])(h1:s.length<=most)(h2:¬(1<s.length/\s.getD 0 0=48))(h3:s.all fO=true):pM most s=some (lK 0 s):=by
 unfold pM;rw[if_pos];rw[h3];simp only[Bool.and_true,Bool.and_eq_true,Bool.not_eq_true',decide_eq_true_eq,Bool.and_eq_false_iff,decide_eq_false_iff_not,beq_eq_false_iff_ne];exact⟨⟨by cases s<;>simp_all,h1⟩,by by_cases h : 1<s.length<;>simp_all⟩
end Go.D3
