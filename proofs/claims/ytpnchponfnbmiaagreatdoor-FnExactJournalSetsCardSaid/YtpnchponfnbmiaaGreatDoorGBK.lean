/- CONTRACTS: maps of schemas: marks on arguments. -/
import Derived.Test.YtpnchponfnbmiaaGreatDoorGAP
namespace Go.D3
open Go
set_option maxHeartbeats 4000000
set_option maxRecDepth 100000
section
variable{α:Type}{mk:Int->α->α}{c:α->Nat}{d:α}{k:Int}{a:List α}{i:Nat}
def sy(c:α->Nat)(a:List α)(i:Nat):Nat:=((a.take i).map c).sum
def zn(mk:Int->α->α)(c:α->Nat)(d:α)(k:Int)(a:List α):List α:=(List.range a.length).map fun j=>mk (k+sy c a j) (a.getD j d)
end
def U.py(x:U):Nat:=1+x.ed.length
def U.zl(k:Int)(x:U):U:=⟨k,dC (k+1) x.ed.length⟩
def aa.marks(k:Int)(a:aa):aa:={ a with fr:=dC (k) a.fr.length,to:=dC (k+a.fr.length) a.to.length,lf:=zn U.zl U.py U.zero (k+a.fr.length+a.to.length) a.lf,rt:=zn U.zl U.py U.zero (k+a.fr.length+a.to.length+sy U.py a.lf a.lf.length) a.rt }
def aa.bM(a:aa):Nat:=a.fr.length+a.to.length+sy U.py a.lf a.lf.length+sy U.py a.rt a.rt.length
def bR.marks(k:Int)(a:bR):bR:={ a with src:=a.src.marks (k),df:=a.df.marks (k+a.src.bM),eh:=dC (k+a.src.bM+a.df.bM) a.eh.length,ez:=zn U.zl U.py U.zero (k+a.src.bM+a.df.bM+a.eh.length) a.ez }
def bR.bM(a:bR):Nat:=a.src.bM+a.df.bM+a.eh.length+sy U.py a.ez a.ez.length
end Go.D3
