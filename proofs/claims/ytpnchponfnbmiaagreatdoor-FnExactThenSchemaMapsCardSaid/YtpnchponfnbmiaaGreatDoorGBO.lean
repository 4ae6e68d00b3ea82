/- CONTRACTS: maps of schemas: marks on arguments. -/
import Derived.Test.YtpnchponfnbmiaaGreatDoorGAK
import Derived.Test.YtpnchponfnbmiaaGreatDoorGAA
namespace Go.D3
open Go
set_option maxHeartbeats 4000000
set_option maxRecDepth 100000
def ak.marks(k:Int)(a:ak):ak:={ a with fr:=dT (k) a.fr.length,to:=dT (k+a.fr.length) a.to.length,aN:=dT (k+a.fr.length+a.to.length) a.aN.length,co:=On (k+a.fr.length+a.to.length+a.aN.length) a.co }
def ak.bh(a:ak):Nat:=a.fr.length+a.to.length+a.aN.length+wg a.co a.co.length
def bX.marks(k:Int)(a:bX):bX:={ a with src:=a.src.marks (k),av:=a.av.marks (k+a.src.bh),iq:=dT (k+a.src.bh+a.av.bh) a.iq.length,dW:=dT (k+a.src.bh+a.av.bh+a.iq.length) a.dW.length }
def bX.bh(a:bX):Nat:=a.src.bh+a.av.bh+a.iq.length+a.dW.length
end Go.D3
namespace Go.D3
open Go
set_option maxHeartbeats 4000000
set_option maxRecDepth 100000
section
variable{α:Type}{mk:Int->α->α}{c:α->Nat}{d:α}{k:Int}{a:List α}{i:Nat}
def bu(c:α->Nat)(a:List α)(i:Nat):Nat:=((a.take i).map c).sum
theorem CZ:bu c a 0=0:=by simp[bu]
theorem CY(h:i<a.length):bu c a (i+1)=bu c a i+c (a.getD i d):=rZ h d
theorem CX(_:i<a.length):bu c a (i+1)<=bu c a a.length:=by
 unfold bu;rw[List.take_length];exact zC _
def fv(mk:Int->α->α)(c:α->Nat)(d:α)(k:Int)(a:List α):List α:=(List.range a.length).map fun j=>mk (k+bu c a j) (a.getD j d)
def e8(mk:Int->α->α)(c:α->Nat)(d:α)(k:Int)(a:List α)(i:Nat):List α:=((List.range i).map fun j=>mk (k+bu c a j) (a.getD j d))++a.drop i
theorem Og:e8 mk c d k a 0=a:=by simp[e8]
theorem EM(h:i<=a.length):(e8 mk c d k a i).length=a.length:=by simp[e8];omega
theorem Oe(_:i<a.length):(e8 mk c d k a i).getD i d=a.getD i d:=by
 unfold e8;rw[List.getD_eq_getElem?_getD,List.getElem?_append_right (by simp),List.length_map,List.length_range,Nat.sub_self,List.getElem?_drop,Nat.add_zero,<-List.getD_eq_getElem?_getD]
theorem Of(h:i<a.length):(e8 mk c d k a i).set i (mk (k+bu c a i) (a.getD i d))=e8 mk c d k a (i+1):=by
 unfold e8;rw[List.set_append_right _ _ (by simp),List.range_succ,List.map_append];simp only[List.length_map,List.length_range,Nat.sub_self,List.map_cons,List.map_nil,List.append_assoc];congr 1;rw[List.drop_eq_getElem_cons h];rfl
theorem Od(h:¬i<a.length)(hi:i<=a.length):e8 mk c d k a i=fv mk c d k a:=by
 have:i=a.length:=by omega
 subst this;simp[e8,fv]
theorem xo:(fv mk c d k a).length=a.length:=by simp[fv]
theorem Oc(h:i<a.length):(fv mk c d k a).getD i d=mk (k+bu c a i) (a.getD i d):=by
 unfold fv;rw[List.getD_eq_getElem?_getD,List.getElem?_map,List.getElem?_range h];rfl
end
theorem xh{α:Type}{d:α}{l:List α}{i:Nat}{x:α}(h:i<l.length):(l.set i x).getD i d=x:=by
 rw[List.getD_eq_getElem?_getD,List.getElem?_set_self h];rfl
def Pth.aZ(x:Pth):Nat:=1+x.ed.length
def Pth.dS(k:Int)(x:Pth):Pth:=⟨k,dT (k+1) x.ed.length⟩
theorem DD{l:List Pth}{i:Nat}{st:Int}{ed:List (Int)}:D.slice (.agg [.int .i64 Pth.zero.st,ints Pth.zero.ed]) ((l.map Pth.d).set i (.agg [.int .i64 st,ints ed]))=U Pth.d Pth.zero (l.set i ⟨st,ed⟩):=Ez (f:=Pth.d) (d:=Pth.zero) (x:=⟨st,ed⟩)
def AU:List Nat:=[0,1,4,5]
def It:Sl:=ae Go.Proofs.Tryz.types Go.Proofs.Tryz.f39 AU [(2,38)]
theorem Qm:aD Go.Proofs.Tryz.prog Go.Proofs.Tryz.f39 AU It 2=true:=by decide +kernel
theorem yR(a:List Pth)(k:Int)(h0 : 0<=k)(h1:k+bu Pth.aZ a a.length<=4611686018427387900):al Go.Proofs.Tryz.prog 39 [.io (.o (U Pth.d Pth.zero a)) (.o (U Pth.d Pth.zero (fv Pth.dS Pth.aZ Pth.zero k a))),.v (.int .i64 k)] (.int .i64 (k+bu Pth.aZ a a.length)):=by
 refine fD fun hw=>?_
 simp only[dj,fH] at hw;have hm:a.length<=maxLen:=hw.1.1;refine aC Go.Proofs.Tryz.func39 Qm ?_;unfold It ae AU;simp only[go_sem];refine aJ [] (fun(i:Nat)=>[(1,.int .i64 (k+bu Pth.aZ a i)),(3,.int .i64 i),(4,.o (U Pth.d Pth.zero (e8 Pth.dS Pth.aZ Pth.zero k a i)))]) (fun i=>i<=a.length) (fun i=>a.length-i) 0 (by simp only[go_sem];rfl) (Nat.zero_le _) ?_ ?_
 ·simp only[go_sem,Og,CZ];simp
 rintro i hi;by_cases h:i<a.length
 rotate_left
 ·simp only[go_sem]
  rw[EM hi];exact⟨fun hh=>absurd hh h,fun _=>⟨by rw[show i=a.length by omega],by rw[Od h hi]⟩⟩
 have hc:bu Pth.aZ a (i+1)<=bu Pth.aZ a a.length:=CX h;have hl:i<(e8 Pth.dS Pth.aZ Pth.zero k a i).length:=by rw[EM hi];exact h
 have hz:(e8 Pth.dS Pth.aZ Pth.zero k a i).getD i Pth.zero=a.getD i Pth.zero:=Oe h;have hget:∀x,((e8 Pth.dS Pth.aZ Pth.zero k a i).set i x).getD i Pth.zero=x:=fun x=>xh hl
 have hset:(e8 Pth.dS Pth.aZ Pth.zero k a i).set i (Pth.dS (k+bu Pth.aZ a i) (a.getD i Pth.zero))=e8 Pth.dS Pth.aZ Pth.zero k a (i+1):=Of h;have hcs:bu Pth.aZ a (i+1)=bu Pth.aZ a i+Pth.aZ (a.getD i Pth.zero):=CY h;have hhn : 0<=k+bu Pth.aZ a i:=by omega
 have hend:k+bu Pth.aZ a (i+1)=(k+bu Pth.aZ a i)+Pth.aZ (a.getD i Pth.zero):=by omega
 have hbd:(k+bu Pth.aZ a i)+Pth.aZ (a.getD i Pth.zero)<=4611686018427387900:=by omega
 clear hcs hc;generalize hK:k+bu Pth.aZ a i=K at hset hhn hend hbd|-
 generalize e8 Pth.dS Pth.aZ Pth.zero k a i=q at hl hz hget hset|-
 generalize a.getD i Pth.zero=x at hz hset hend hbd;generalize hKe:k+bu Pth.aZ a (i+1)=K2 at hend;unfold Pth.aZ at hbd hend;simp only[go_sem,DD,xh,hz,hl,List.length_set];rw[wrap_small (by omega) (by omega)];refine j0 (uK x.ed (K+1) (by omega) (by omega)) trivial ?_;simp only[go_sem,xh,hl,List.set_set,List.length_set,List.length_map];refine⟨_,ints (dT (K+1) x.ed.length),rfl,rfl,rfl,?_⟩;simp only[go_sem,DD,List.set_set];refine⟨i+1,by omega,by omega,?_⟩;rw[aH h hm,<-hset,hKe,hend];unfold Pth.dS;simp only[Int.natCast_add,Int.natCast_one,Int.add_assoc]
def Sch.marks(k:Int)(a:Sch):Sch:={ a with fr:=dT (k) a.fr.length,to:=dT (k+a.fr.length) a.to.length,lf:=fv Pth.dS Pth.aZ Pth.zero (k+a.fr.length+a.to.length) a.lf,rt:=fv Pth.dS Pth.aZ Pth.zero (k+a.fr.length+a.to.length+bu Pth.aZ a.lf a.lf.length) a.rt }
def Sch.bh(a:Sch):Nat:=a.fr.length+a.to.length+bu Pth.aZ a.lf a.lf.length+bu Pth.aZ a.rt a.rt.length
def AV:List Nat:=[0,1,4,2]
def Iu:Sl:=ae Go.Proofs.Tryz.types Go.Proofs.Tryz.f37 AV [(2,38),(2,39),(9,2)]
theorem Qn:aD Go.Proofs.Tryz.prog Go.Proofs.Tryz.f37 AV Iu 2=true:=by decide +kernel
theorem GX(a:Sch)(k:Int)(h0 : 0<=k)(h1:k+a.bh<=4611686018427387900):al Go.Proofs.Tryz.prog 37 [.io (.o (Sch.d a)) (.o (Sch.d (a.marks k))),.v (.int .i64 k)] (.int .i64 (k+a.bh)):=by
 unfold Sch.bh at h1|-
 refine aC Go.Proofs.Tryz.func37 Qn ?_;unfold Iu ae AV;simp only[go_sem];refine j0 (uK a.fr (k) (by omega) (by omega)) trivial ?_;simp only[go_sem];refine⟨_,ints (dT (k) a.fr.length),rfl,rfl,rfl,?_⟩;refine j0 (uK a.to (k+a.fr.length) (by omega) (by omega)) trivial ?_;simp only[go_sem];refine⟨_,ints (dT (k+a.fr.length) a.to.length),rfl,rfl,rfl,?_⟩;refine j0 (yR a.lf (k+a.fr.length+a.to.length) (by omega) (by omega)) trivial ?_;simp only[go_sem];refine⟨_,U Pth.d Pth.zero (fv Pth.dS Pth.aZ Pth.zero (k+a.fr.length+a.to.length) a.lf),rfl,rfl,rfl,?_⟩;refine j0 (yR a.rt (k+a.fr.length+a.to.length+bu Pth.aZ a.lf a.lf.length) (by omega) (by omega)) trivial ?_;simp only[go_sem];refine⟨_,U Pth.d Pth.zero (fv Pth.dS Pth.aZ Pth.zero (k+a.fr.length+a.to.length+bu Pth.aZ a.lf a.lf.length) a.rt),rfl,rfl,rfl,?_⟩;exact⟨by simp only[Int.natCast_add,Int.add_assoc],rfl⟩
def Smp.marks(k:Int)(a:Smp):Smp:={ a with src:=a.src.marks (k),av:=a.av.marks (k+a.src.bh),aX:=dT (k+a.src.bh+a.av.bh) a.aX.length,aL:=fv Pth.dS Pth.aZ Pth.zero (k+a.src.bh+a.av.bh+a.aX.length) a.aL }
def Smp.bh(a:Smp):Nat:=a.src.bh+a.av.bh+a.aX.length+bu Pth.aZ a.aL a.aL.length
def AW:List Nat:=[0,1,4,2]
def Iv:Sl:=ae Go.Proofs.Tryz.types Go.Proofs.Tryz.f12 AW [(2,37),(2,38),(2,39),(9,2)]
theorem Qo:aD Go.Proofs.Tryz.prog Go.Proofs.Tryz.f12 AW Iv 2=true:=by decide +kernel
theorem yS(a:Smp)(k:Int)(h0 : 0<=k)(h1:k+a.bh<=4611686018427387900):al Go.Proofs.Tryz.prog 12 [.io (.o (Smp.d a)) (.o (Smp.d (a.marks k))),.v (.int .i64 k)] (.int .i64 (k+a.bh)):=by
 unfold Smp.bh at h1|-
 refine aC Go.Proofs.Tryz.func12 Qo ?_;unfold Iv ae AW;simp only[go_sem];refine ra (GX a.src (k) (by omega) (by omega)) trivial ?_;simp only[go_sem];refine⟨(a.src.marks (k)).cells,rfl,qW ?_⟩;simp only[go_sem];refine ra (GX a.av (k+a.src.bh) (by omega) (by omega)) trivial ?_;simp only[go_sem];refine⟨(a.av.marks (k+a.src.bh)).cells,rfl,qW ?_⟩;simp only[go_sem];refine j0 (uK a.aX (k+a.src.bh+a.av.bh) (by omega) (by omega)) trivial ?_;simp only[go_sem];refine⟨_,ints (dT (k+a.src.bh+a.av.bh) a.aX.length),rfl,rfl,rfl,?_⟩;refine j0 (yR a.aL (k+a.src.bh+a.av.bh+a.aX.length) (by omega) (by omega)) trivial ?_;simp only[go_sem];refine⟨_,U Pth.d Pth.zero (fv Pth.dS Pth.aZ Pth.zero (k+a.src.bh+a.av.bh+a.aX.length) a.aL),rfl,rfl,rfl,?_⟩;exact⟨by simp only[Int.natCast_add,Int.add_assoc],rfl⟩
end Go.D3
