/- CONTRACTS: set functors: type, comparison, marks. -/
import Derived.Test.YtpnchponfnbmiaaGreatDoorGAK
import Derived.Test.YtpnchponfnbmiaaGreatDoorGAA
namespace Go.D3
open Go Proofs
set_option maxHeartbeats 4000000
set_option maxRecDepth 100000
def au.marks(k:Int)(a:au):au:={ a with fr:=dC (k) a.fr.length,to:=dC (k+a.fr.length) a.to.length,aU:=dC (k+a.fr.length+a.to.length) a.aU.length,co:=jJ (k+a.fr.length+a.to.length+a.aU.length) a.co }
def au.bM(a:au):Nat:=a.fr.length+a.to.length+a.aU.length+cL a.co a.co.length
def CX:List Nat:=[0,1,4,2]
def Ll:Sl:=ah Tryz.types Tryz.f40 CX [(2,38),(2,68),(9,2)]
theorem UO:aC Tryz.prog Tryz.f40 CX Ll 2=true:=by decide +kernel
theorem Yq(a:au)(k:Int)(h0 : 0<=k)(h1:k+a.bM<=4611686018427387900):aw Tryz.prog 40 [.io (.o (au.d a)) (.o (au.d (a.marks k))),.v (.int .i64 k)] (.int .i64 (k+a.bM)):=by
 unfold au.bM at h1|-
 refine aK Tryz.func40 UO ?_;unfold Ll ah CX;simp only[go_sem];refine lv (tJ a.fr (k) (by omega) (by omega)) trivial ?_;simp only[go_sem];refine⟨_,ints (dC (k) a.fr.length),rfl,rfl,rfl,?_⟩;refine lv (tJ a.to (k+a.fr.length) (by omega) (by omega)) trivial ?_;simp only[go_sem];refine⟨_,ints (dC (k+a.fr.length) a.to.length),rfl,rfl,rfl,?_⟩;refine lv (tJ a.aU (k+a.fr.length+a.to.length) (by omega) (by omega)) trivial ?_;simp only[go_sem];refine⟨_,ints (dC (k+a.fr.length+a.to.length) a.aU.length),rfl,rfl,rfl,?_⟩;refine lv (JM a.co (k+a.fr.length+a.to.length+a.aU.length) (by omega) (by omega)) trivial ?_;simp only[go_sem];refine⟨_,aF (jJ (k+a.fr.length+a.to.length+a.aU.length) a.co),rfl,rfl,rfl,?_⟩;exact⟨by simp only[Int.natCast_add,Int.add_assoc],rfl⟩
def CS:List Nat:=[0,1,4,2]
def Lh:Sl:=ah Tryz.types Tryz.f41 CS []
theorem UK:aC Tryz.prog Tryz.f41 CS Lh 2=true:=by decide +kernel
theorem Yp(a:au)(k:Int)(h0 : 0<=k)(h1:k+a.bM<=4611686018427387900):aw Tryz.prog 41 [.v (au.d (a.marks k)),.v (.int .i64 k)] (.int .i64 (k+a.bM)):=by
 unfold au.bM at h1|-
 refine aK Tryz.func41 UK ?_;unfold Lh ah CS;simp only[go_sem];refine an (tI a.fr.length (k) (by omega) (by omega)) rfl (.inl rfl) ?_;simp only[go_sem];refine⟨fun hh=>by omega,fun _=>?_⟩;refine an (tI a.to.length (k+a.fr.length) (by omega) (by omega)) rfl (.inl rfl) ?_;simp only[go_sem];refine⟨fun hh=>by omega,fun _=>?_⟩;refine an (tI a.aU.length (k+a.fr.length+a.to.length) (by omega) (by omega)) rfl (.inl rfl) ?_;simp only[go_sem];refine⟨fun hh=>by omega,fun _=>?_⟩;refine an (JK a.co (k+a.fr.length+a.to.length+a.aU.length) (by omega) (by omega)) rfl (.inl rfl) ?_;simp only[go_sem];refine⟨fun hh=>by omega,fun _=>?_⟩;simp only[Int.natCast_add,Int.add_assoc]
def cU.marks(k:Int)(a:cU):cU:={ a with src:=a.src.marks (k),df:=a.df.marks (k+a.src.bM),iZ:=dC (k+a.src.bM+a.df.bM) a.iZ.length,iM:=dC (k+a.src.bM+a.df.bM+a.iZ.length) a.iM.length }
def cU.bM(a:cU):Nat:=a.src.bM+a.df.bM+a.iZ.length+a.iM.length
end Go.D3
namespace Go.D3
open Go Proofs
set_option maxHeartbeats 4000000
set_option maxRecDepth 100000
structure Sf where
 er:au
 sz:List (Int)
 act:List (List (Int))
def Sf.cells(x:Sf):List D:=[.int .i64 x.er.ob,ints x.er.fr,ints x.er.to,ints x.er.aU,aF x.er.co,ints x.sz,aF x.act]
def Sf.d(x:Sf):D:=.agg x.cells
def Sf.zero:Sf:=⟨au.zero,[],[]⟩
def Sf.cost(x:Sf):Nat:=au.cost x.er+x.sz.length+dB List.length x.act
theorem Z8:D.slice (.agg [.int .i64 0,ints [],ints [],ints [],aF [],ints [],aF []]) []=ae Sf.d Sf.zero []:=rfl
theorem Xh{n:Nat}:D.slice (.agg [.int .i64 0,ints [],ints [],ints [],aF [],ints [],aF []]) (List.replicate n (.agg [.int .i64 0,ints [],ints [],ints [],aF [],ints [],aF []]))=ae Sf.d Sf.zero (List.replicate n Sf.zero):=by unfold ae;rw[List.map_replicate];rfl
theorem ZH{l:List Sf}{i:Nat}{shpob:Int}{shpfr:List (Int)}{shpto:List (Int)}{shpidn:List (Int)}{shpco:List (List (Int))}{sz:List (Int)}{act:List (List (Int))}:dw (.o (ae Sf.d Sf.zero l)) [(i,0)] 0 [.int .i64 shpob,ints shpfr,ints shpto,ints shpidn,aF shpco,ints sz,aF act]=.o (ae Sf.d Sf.zero (l.set i ⟨⟨shpob,shpfr,shpto,shpidn,shpco⟩,sz,act⟩)):=mT (n:=7) (fun _=>⟨_,rfl,rfl⟩) rfl
attribute [go_sem] Sf.cells.eq_1 Sf.d.eq_1 Z8 Xh
theorem NF{l:List Sf}{shpob:Int}{shpfr:List (Int)}{shpto:List (Int)}{shpidn:List (Int)}{shpco:List (List (Int))}{sz:List (Int)}{act:List (List (Int))}:(ae Sf.d Sf.zero l).dj [.agg [.int .i64 shpob,ints shpfr,ints shpto,ints shpidn,aF shpco,ints sz,aF act]]=ae Sf.d Sf.zero (l++[⟨⟨shpob,shpfr,shpto,shpidn,shpco⟩,sz,act⟩]):=kD (f:=Sf.d) (x:=⟨⟨shpob,shpfr,shpto,shpidn,shpco⟩,sz,act⟩)
attribute [go_sem high] ZH NF
theorem pG(x:Sf):x.d.a7=true:=by simp only[Sf.d,Sf.cells,D.a7,db,bT,mz,Bool.and_self]
def CR:List Nat:=[0,1,4,2,3]
def Lg:Sl:=ah Tryz.types Tryz.f20 CR []
theorem UJ:aC Tryz.prog Tryz.f20 CR Lg 2=true:=by decide +kernel
theorem JJ(a:Sf):aw Tryz.prog 20 [.v (Sf.d a),.v (Sf.d a)] (.bool true):=by
 refine aK Tryz.func20 UJ ?_;unfold Lg ah CR;simp only[go_sem];refine an (Yo a.er) rfl (.inl rfl) ?_;simp only[go_sem];refine an (tH a.sz) rfl (.inl rfl) ?_;simp only[go_sem];refine an (JI a.act) rfl (.inl rfl) ?_;simp only[go_sem]
 all_goals trivial
def Sf.marks(k:Int)(a:Sf):Sf:={ a with er:=a.er.marks (k),sz:=dC (k+a.er.bM) a.sz.length,act:=jJ (k+a.er.bM+a.sz.length) a.act }
def Sf.bM(a:Sf):Nat:=a.er.bM+a.sz.length+cL a.act a.act.length
def C0:List Nat:=[0,1,4,2]
def Lo:Sl:=ah Tryz.types Tryz.f21 C0 [(2,38),(2,40),(2,68),(9,2)]
theorem UR:aC Tryz.prog Tryz.f21 C0 Lo 2=true:=by decide +kernel
theorem Yr(a:Sf)(k:Int)(h0 : 0<=k)(h1:k+a.bM<=4611686018427387900):aw Tryz.prog 21 [.io (.o (Sf.d a)) (.o (Sf.d (a.marks k))),.v (.int .i64 k)] (.int .i64 (k+a.bM)):=by
 unfold Sf.bM at h1|-
 refine aK Tryz.func21 UR ?_;unfold Lo ah C0;simp only[go_sem];refine GA (Yq a.er (k) (by omega) (by omega)) trivial ?_;simp only[go_sem];refine⟨(a.er.marks (k)).cells,rfl,F6 ?_⟩;simp only[go_sem];refine lv (tJ a.sz (k+a.er.bM) (by omega) (by omega)) trivial ?_;simp only[go_sem];refine⟨_,ints (dC (k+a.er.bM) a.sz.length),rfl,rfl,rfl,?_⟩;refine lv (JM a.act (k+a.er.bM+a.sz.length) (by omega) (by omega)) trivial ?_;simp only[go_sem];refine⟨_,aF (jJ (k+a.er.bM+a.sz.length) a.act),rfl,rfl,rfl,?_⟩;exact⟨by simp only[Int.natCast_add,Int.add_assoc],rfl⟩
def CW:List Nat:=[0,1,4,2]
def Lk:Sl:=ah Tryz.types Tryz.f22 CW []
theorem UN:aC Tryz.prog Tryz.f22 CW Lk 2=true:=by decide +kernel
theorem JL(a:Sf)(k:Int)(h0 : 0<=k)(h1:k+a.bM<=4611686018427387900):aw Tryz.prog 22 [.v (Sf.d (a.marks k)),.v (.int .i64 k)] (.int .i64 (k+a.bM)):=by
 unfold Sf.bM at h1|-
 refine aK Tryz.func22 UN ?_;unfold Lk ah CW;simp only[go_sem];refine an (Yp a.er (k) (by omega) (by omega)) rfl (.inl rfl) ?_;simp only[go_sem];refine⟨fun hh=>by omega,fun _=>?_⟩;refine an (tI a.sz.length (k+a.er.bM) (by omega) (by omega)) rfl (.inl rfl) ?_;simp only[go_sem];refine⟨fun hh=>by omega,fun _=>?_⟩;refine an (JK a.act (k+a.er.bM+a.sz.length) (by omega) (by omega)) rfl (.inl rfl) ?_;simp only[go_sem];refine⟨fun hh=>by omega,fun _=>?_⟩;simp only[Int.natCast_add,Int.add_assoc]
end Go.D3
