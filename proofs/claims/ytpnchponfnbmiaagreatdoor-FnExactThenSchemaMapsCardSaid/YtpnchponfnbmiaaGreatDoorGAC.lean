/- CONTRACTS: data of schemas, the program's side: rows, what edges lead to, copies. -/
import Derived.Test.YtpnchponfnbmiaaGreatDoorGAB
namespace Go.D3
open Go
set_option maxHeartbeats 4000000
set_option maxRecDepth 100000
def pQ(fr:List Int)(x:Int)(i:Nat):List Int:=((List.range i).filter fun e=>fr.getD e 0 == x) |>.map fun e:Nat=>(e:Int)
theorem Rv{fr:List Int}{x:Int}{i:Nat}:pQ fr x (i+1)=pQ fr x i++(if fr.getD i 0=x then[(i:Int)] else[]):=by
 unfold pQ;rw[List.range_succ,List.filter_append,List.map_append];congr 1;by_cases h:fr.getD i 0=x
 ·rw[if_pos h,List.filter_cons_of_pos (by simpa using h)];rfl
 ·rw[if_neg h,List.filter_cons_of_neg (by simpa using h)];rfl
theorem fP{n:Int}{l:List Int}{i:Nat}(h:cN n l=true)(hi:i<l.length) : 0<=l.getD i 0/\l.getD i 0<n:=by
 unfold cN at h;have:=List.all_eq_true.1 h _ (List.getElem_mem hi);rw[aO hi];simpa using this
section
variable{β:Type}{f:Nat->Option β}{i n:Nat}{b:β}
end
def bA.okB(c:bA):Bool:=if c.kd=1 then c.se == 0&&c.th == 0 else c.kd == 2
end Go.D3
