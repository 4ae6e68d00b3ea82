/- CALLS with pointers to the first part of a struct. -/
import Derived.Test.YtpjbamibcngihaaGreatDoorGAU
import Derived.Test.YtpjbamibcngihaaGreatDoorGAX
import Derived.Test.YtpjbamibcngihaaGreatDoorGAT
import Derived.Test.YtpjbamibcngihaaGreatDoorGAG
import Derived.Test.YtpjbamibcngihaaGreatDoorHG
namespace Go.D3
open Go
set_option maxHeartbeats 4000000
set_option maxRecDepth 100000
theorem O5(x:bT)(h : 0<x.dt.length)(hl:x.dt.length<=4294966000):aC Go.Proofs.Tryz.prog 32 [.v (bT.d x)] (dc (some (x.dt.getD (x.dt.length-1) af.zero))):=by
 have hw:IntKind.i64.wrap ((x.dt.length:Int)-1)=((x.dt.length-1:Nat):Int):=by rw[wrap_small (by omega) (by omega)];omega
 refine aT Go.Proofs.Tryz.func32 CY ?_;unfold xu ak sa;simp only[go_sem];rw[hw];exact⟨⟨by omega,by omega⟩,rfl⟩
theorem Iz{s:aa}{d:af}(hd:bX s d)(i:Nat) : 0<=d.sz.getD i 0:=by
 by_cases h:i<d.sz.length
 ·exact(hd.fo i h).1
 ·rw[List.getD_eq_getElem?_getD,List.getElem?_eq_none (by omega)];exact Int.le_refl _
theorem IQ{p:aa×Hs}(hs:dT p.1)(hd:bX p.1 p.2.last){e:Int}(h:aL e 0 ((p.1.fr.length:Int)-1)=true):(0<=e/\e<p.1.fr.length)/\0<=p.1.fr.getD e.toNat 0/\p.1.fr.getD e.toNat 0<p.2.last.sz.length:=by
 simp only[aL,Bool.and_eq_true,decide_eq_true_eq] at h;have hn:=hd.nd;have:=dJ hs.fr (i:=e.toNat) (by omega);exact⟨by omega,by omega⟩
theorem Gg{α:Type}{l:List α}{f:α->Bool}{k:Nat}{d:α}(h:k<l.length):(l.take (k+1)).any f=((l.take k).any f || f (l.getD k d)):=by
 rw[List.take_succ_eq_append_getElem h,List.any_append,aS h,List.any_cons,List.any_nil,Bool.or_false]
def rW(p:aa×Hs)(e r:Int):Bool:=aL e 0 ((p.1.fr.length:Int)-1)&&aL r 0 (p.2.last.sz.getD (p.1.fr.getD e.toNat 0).toNat 0-1)
def jJ(e r:Int):Option (aa×Hs)->D
 | none=>.au [.int .i64 0,.int .i64 6]
 | some p=>if rW p e r=true then .au [.int .i64 (eC p.2.tx e r p.2.tx.length),.int .i64 0] else .au [.int .i64 0,.int .i64 2]
def xL:List Nat:=[0,1,2,6,7,8,9,10,11,12,13]
def DV:Sl:=ak Go.Proofs.Tryz.types Go.Proofs.Tryz.f9 xL [(0,28)]
theorem MT:aI Go.Proofs.Tryz.prog Go.Proofs.Tryz.f9 xL DV 3=true:=by decide +kernel
theorem MB(t:List UInt8)(e r:Int)(ht:t.length<=1048576):aC Go.Proofs.Tryz.prog 9 [.v (.str t),.v (.int .i64 e),.v (.int .i64 r)] (jJ e r (bO t)):=by
 refine aT Go.Proofs.Tryz.func9 MT ?_;unfold DV ak xL;simp only[go_sem];refine eD [] false (tf t (by omega)) ?_;cases hr:bO t with
 | none =>
  simp only[lu];simp only[go_sem];rfl
 | some p =>
  obtain⟨hok,hH⟩:=jT hr;have hs:=eQ (eK hok).1;have hdl:=hH.dl;have h6:=hH.t6;have hgl:=hH.gl;have hf8:=hs.f8;have hnd:=hH.last.nd;have hlast:=O5 (bT.of p.1 p.2) (by show 0<p.2.dt.length;omega) (by show p.2.dt.length<=_;omega);rw[tI] at hlast;have hw:IntKind.i64.wrap ((p.1.fr.length:Int)-1)=(p.1.fr.length:Int)-1:=wrap_small (by omega) (by omega);simp only[lu,Hs.pl];simp only[go_sem];rw[hw];refine ax (jK _ _ _) rfl (.inl rfl) ?_;simp only[go_sem];refine FC (res':=af.d p.2.last) (fun _=>hlast) rfl rfl (fun h=>h) (.inr trivial) ?_;simp only[go_sem];have hr:=fun h=>IQ hs hH.last (e:=e) h
  have z1:=Iz hH.last (p.1.fr.getD e.toNat 0).toNat;have z2:=uh hH.last (p.1.fr.getD e.toNat 0).toNat;rw[wrap_small (n:=p.2.last.sz.getD (p.1.fr.getD e.toNat 0).toNat 0-1) (by omega) (by omega)];refine⟨fun h=>⟨h,(hr h).1⟩,fun h=>⟨h,(hr h).2⟩,bG (fun _=>jK _ _ _) rfl (fun h=>h) (.inl rfl) ?_⟩;have hb:rW p e r=(aL e 0 ((p.1.fr.length:Int)-1)&&aL r 0 (p.2.last.sz.getD (p.1.fr.getD e.toNat 0).toNat 0-1)):=rfl;generalize aL e 0 ((p.1.fr.length:Int)-1)=b1 at *;generalize aL r 0 (p.2.last.sz.getD (p.1.fr.getD e.toNat 0).toNat 0-1)=b2 at *;simp only[jJ,hb];simp only[go_sem];refine⟨fun h=>by simpa using h,fun h=>by rw[if_neg (by revert h;cases b1<;>cases b2<;>decide)],fun h=>?_⟩;have hb':(b1&&b2)=true:=by revert h;cases b1<;>cases b2<;>decide
  refine aG [9,10] (fun(i:Nat)=>[(7,.int .i64 (eC p.2.tx e r i)),(8,.int .i64 i)]) (fun i=>i<=p.2.tx.length) (fun i=>p.2.tx.length-i) 0 (by simp only[go_sem];rfl) (Nat.zero_le _) rfl ?_;intro i hi;simp only[go_sem];refine⟨fun h1=>?_,fun h1=>by simp only[jJ,hb];rw[if_pos hb',show i=p.2.tx.length by omega]⟩;have hrl:=hH.tl (p.2.tx.getD i []) (oX h1);have hwi:=aN h1 (show p.2.tx.length<=maxLen by simp only[maxLen];omega);refine aG [10] (fun(k:Nat)=>[(7,.int .i64 ((if((p.2.tx.getD i []).take k).any (fun c=>c.cM e r)=true then i+1 else eC p.2.tx e r i:Nat):Int)),(9,.int .i64 k)]) (fun k=>k<=(p.2.tx.getD i []).length) (fun k=>(p.2.tx.getD i []).length-k) 0 (by simp only[go_sem];rfl) (Nat.zero_le _) rfl ?_;intro k hk;simp only[go_sem];refine⟨h1,fun h2=>⟨h1,h2,fun h3=>⟨k+1,h2,by omega,?_⟩,fun h3=>⟨k+1,h2,by omega,?_⟩⟩,fun h2=>⟨i+1,h1,by omega,?_⟩⟩
  ·rw[Gg (d:=ah.zero) h2,show((p.2.tx.getD i []).getD k ah.zero).cM e r=true from h3,Bool.or_true,if_pos rfl,hwi,aN h2 (by simp only[maxLen];omega)]
  ·rw[Gg (d:=ah.zero) h2,show((p.2.tx.getD i []).getD k ah.zero).cM e r=false from h3,Bool.or_false,aN h2 (by simp only[maxLen];omega)]
  ·rw[hwi,show k=(p.2.tx.getD i []).length by omega,List.take_length,eC]
end Go.D3
namespace Go.D3
open Go
set_option maxRecDepth 100000
def xi:List Nat:=[0,1,2,4,3]
def Dm:Sl:=ak Go.Proofs.Tryz.types Go.Proofs.Tryz.f37 xi []
theorem L0:aI Go.Proofs.Tryz.prog Go.Proofs.Tryz.f37 xi Dm 3=true:=by decide +kernel
theorem Og(c:ah)(e r:Int):aC Go.Proofs.Tryz.prog 37 [.v (ah.d c),.v (.ptr [.int .i64 e]),.v (.ptr [.int .i64 r])] (.bool (c.cM e r)):=by
 refine aT Go.Proofs.Tryz.func37 L0 ?_;unfold Dm ak xi;simp only[go_sem];rfl
def gP(e r:Int):List ah->Nat->Int
 | [],_=>-1
 | c::l,k=>if c.cM e r=true then k else gP e r l (k+1)
def vu:List Nat:=[0,1,4,5,7,8]
def BM:Sl:=ak Go.Proofs.Tryz.types Go.Proofs.Tryz.f60 vu []
theorem J0:aI Go.Proofs.Tryz.prog Go.Proofs.Tryz.f60 vu BM 2=true:=by decide +kernel
theorem JZ(l:List ah)(e r:Int)(hl:l.length<=1048576):aC Go.Proofs.Tryz.prog 60 [.v (ae ah.d ah.zero l),.v (.fn 37 [.ptr [.int .i64 e],.ptr [.int .i64 r]])] (.int .i64 (gP e r l 0)):=by
 refine aT Go.Proofs.Tryz.func60 J0 ?_;unfold BM ak vu;simp only[go_sem];refine aG [3] (fun(p:Nat)=>[(5,.int .i64 p)]) (fun p=>p<=l.length/\gP e r (l.drop p) p=gP e r l 0) (fun p=>l.length-p) 0 (by simp only[go_sem];rfl) ⟨Nat.zero_le _,rfl⟩ rfl ?_;rintro i ⟨hi,hI⟩;simp only[go_sem];refine⟨fun h1=>⟨h1,?_⟩,fun h1=>?_⟩
 ·have hv:=aC.view (xs:=[ah.d (l.getD i ah.zero),.ptr [.int .i64 e],.ptr [.int .i64 r]]) (by decide +kernel) (fun x hx=>by simp at hx;rcases hx with rfl | rfl | rfl<;>simp only[ah.d,ah.cells,D.refs,bN,and_self]) rfl (Og (l.getD i ah.zero) e r)
  refine eD [] false hv ?_;have hd:l.drop i=l.getD i ah.zero::l.drop (i+1):=by rw[aS h1];exact List.drop_eq_getElem_cons h1
  rw[hd,gP] at hI;simp only[go_sem];refine⟨fun h2=>?_,fun h2=>⟨i+1,⟨h1,?_⟩,by omega,by rw[aN h1 (by simp only[maxLen];omega)]⟩⟩
  ·rw[if_pos h2] at hI;rw[<-hI]
  ·rw[if_neg (by rw[h2];decide)] at hI;exact hI
 ·rw[show i=l.length by omega,List.drop_length] at hI
  rw[<-hI];rfl
theorem GN{e r:Int}:∀{l:List ah}{k:Nat},decide (0<=gP e r l k)=l.any fun c=>c.cM e r
 | [],_=>rfl
 | c::l,k=>by
  rw[gP,List.any_cons];cases h:c.cM e r with
  | true=>rw[if_pos rfl,Bool.true_or];exact decide_eq_true (Int.natCast_nonneg k)
  | false=>rw[if_neg (by decide),Bool.false_or,GN]
def vt:List Nat:=[0,1,4]
def BL:Sl:=ak Go.Proofs.Tryz.types Go.Proofs.Tryz.f36 vt []
theorem JY:aI Go.Proofs.Tryz.prog Go.Proofs.Tryz.f36 vt BL 2=true:=by decide +kernel
theorem JX(l:List ah)(e r:Int)(hl:l.length<=1048576):aC Go.Proofs.Tryz.prog 36 [.v (ae ah.d ah.zero l),.v (.fn 37 [.ptr [.int .i64 e],.ptr [.int .i64 r]])] (.bool (l.any fun c=>c.cM e r)):=by
 refine aT Go.Proofs.Tryz.func36 JY ?_;unfold BL ak vt;simp only[go_sem];refine ax (JZ l e r hl) rfl (.inl rfl) ?_;simp only[go_sem];rw[GN]
end Go.D3
namespace Go.D3
open Go
set_option maxRecDepth 100000
def im(s:aa)(dt:List af)(tx:List (List ah))(g:Nat):List D:=[.int .i64 s.nd,ints s.fr,ints s.to,ae U.d U.zero s.lf,ae U.d U.zero s.rt,ae af.d af.zero dt,ae (ae ah.d ah.zero) [] tx,.int .i64 g]
def qa:List Nat:=[0,2]
def rY:Sl:=ak Go.Proofs.Tryz.types Go.Proofs.Tryz.f35 qa [(7,77)]
theorem vW:aI Go.Proofs.Tryz.prog Go.Proofs.Tryz.f35 qa rY 1=true:=by decide +kernel
theorem Kr(s:aa)(dt:List af)(tx:List (List ah))(g:Nat)(h : 0<dt.length)(hl:dt.length<=4294966000):gy Go.Proofs.Tryz.prog 35 [.av 0 [(0,0)]] [.o (.ptr (im s dt tx g))] (.agg [.sub 0 [(0,5),(dt.length-1,0)],.sub 0 [(0,5),(dt.length-1,1)]]) [.o (.ptr (im s dt tx g))]:=by
 unfold im;refine oz .refs Go.Proofs.Tryz.func35 vW ?_;unfold rY ak qa;simp only[go_sem];have hw:IntKind.i64.wrap ((dt.length:Int)-1)=((dt.length-1:Nat):Int):=by rw[wrap_small (by omega) (by omega)];omega
 rw[hw,Int.toNat_natCast];exact⟨⟨by omega,by omega⟩,by omega,rfl⟩
def cG(s:aa)(dt:List af)(tx:List (List ah))(g:Nat):List D:=[.int .i64 s.nd,.o (ints s.fr),.o (ints s.to),.o (ae U.d U.zero s.lf),.o (ae U.d U.zero s.rt),.o (ae af.d af.zero dt),.o (ae (ae ah.d ah.zero) [] tx),.int .i64 g]
theorem Qk(s:aa)(dt:List af)(tx:List (List ah))(g:Nat)(h : 0<dt.length)(hl:dt.length<=4294966000):gy Go.Proofs.Tryz.prog 35 [.av 0 [(0,0)]] [.box (cG s dt tx g)] (.agg [.sub 0 [(0,5),(dt.length-1,0)],.sub 0 [(0,5),(dt.length-1,1)]]) [.box (cG s dt tx g)]:=by
 unfold cG;refine oz .refs Go.Proofs.Tryz.func35 vW ?_;unfold rY ak qa;simp only[go_sem];have hw:IntKind.i64.wrap ((dt.length:Int)-1)=((dt.length-1:Nat):Int):=by rw[wrap_small (by omega) (by omega)];omega
 rw[hw,Int.toNat_natCast];exact⟨⟨by omega,by omega⟩,by omega,rfl⟩
end Go.D3
namespace Go.D3
open Go
def BC(a d:D):Prop:=a=d\/∃n l,d=.ptr l/\a=.ptr (l.take n)
def rX:List D->List D->Prop
 | [],[]=>True
 | a::xs,d::ds=>BC a d/\rX xs ds
 | _,_=>False
theorem Rd.wk{w:World}{A:Nat->Prop}{v:Value}{a d:D}(h:Rd w A v d)(hw:BC a d):Rd w A v a:=by
 rcases hw with rfl | ⟨n,l,rfl,rfl⟩
 ·exact h
 ·cases h with
  | ptr hA vs hc hr =>
   have key:∀(j:Nat)(x:D),(l.take n)[j]?=some x->l[j]?=some x:=fun j x hx=>by
    rw[List.getElem?_take] at hx;split at hx
    ·exact hx
    ·cases hx
   exact .ptr hA vs (fun j x hx=>hc j x (key j x hx)) fun j x hx=>hr j x (key j x hx)
theorem Ib:∀{xs ds:List D},rX xs ds->xs.length=ds.length
 | [],[],_=>rfl
 | _::_,_::_,h=>by simp only[List.length_cons,Ib h.2]
 | [],_::_,h=>h.elim
 | _::_,[],h=>h.elim
theorem H2:∀{xs ds:List D},rX xs ds->∀{j:Nat}{a:D},xs[j]?=some a->∃d,ds[j]?=some d/\BC a d
 | [],_,_,j,a,hj=>by simp at hj
 | x::r,y::s,h,0,a,hj=>by
  simp only[List.getElem?_cons_zero,Option.some.injEq] at hj;exact⟨y,rfl,hj▸h.1⟩
 | x::r,y::s,h,j+1,a,hj=>by
  simp only[List.getElem?_cons_succ] at hj|-
  exact H2 h.2 hj
 | _::_,[],h,_,_,_=>h.elim
theorem U3{P:Program}{f:FuncId}{xs ds:List D}{res:D}(h:aC P f (xs.map .v) res)(hw:rX xs ds):aC P f (ds.map .v) res:=by
 intro w A vs Fs h0 h1 h2 h3 h4 h5;have hl:=Ib hw;refine(h w A vs Fs h0 h1 (by rw[h2];simp[hl]) (fun j a hj=>?_) h4 fun j b hb=>⟨(h5 j b hb).1,(h5 j b hb).2.1,by simpa[hl] using(h5 j b hb).2.2⟩).mono ?_
 ·rw[List.getElem?_map,Option.map_eq_some_iff] at hj
  obtain⟨x,hx,rfl⟩:=hj;obtain⟨d,hd,hwd⟩:=H2 hw hx;have:=h3 j (.v d) (by rw[List.getElem?_map,hd];rfl);exact⟨this.1.wk hwd,this.2⟩
 ·rintro e w' ⟨v,F,Fs',e1,e2,e3,e4,e5,e6,e7⟩
  refine⟨v,F,Fs',e1,e2,e3,fun j a hj=>?_,e5,fun j b hb=>⟨(e6 j b hb).1,(e6 j b hb).2.1,by simpa[hl] using(e6 j b hb).2.2⟩,e7⟩;rw[List.getElem?_map,Option.map_eq_some_iff] at hj;obtain⟨d,hd,rfl⟩:=hj;have hj2:j<xs.length:=by rw[hl];exact(List.getElem?_eq_some_iff.1 hd).1
  exact e4 j (.v xs[j]) (by rw[List.getElem?_map,List.getElem?_eq_getElem hj2];rfl)
theorem HN{P:Program}{f:FuncId}{pl:Prop}{K:St->Prop}{st:St}{xs:List Arg}{bs ds:List D}{res:D}(hR:aC P f xs res)(ha:xs=bs.map .v)(hw:rX bs ds)(hn:res.bl=true\/pl)(hK:K (st.push (aV res))):@lU P f (some ds) true pl none ⟨K⟩ st :=
 ax (U3 (ha▸hR) hw) rfl hn hK
end Go.D3
