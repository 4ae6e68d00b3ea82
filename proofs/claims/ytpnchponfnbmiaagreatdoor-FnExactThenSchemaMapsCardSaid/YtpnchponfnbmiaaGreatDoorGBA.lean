/- PLAIN LAWS: how many classes there are; a class without a path that can become longer. -/
import Derived.Test.YtpnchponfnbmiaaGreatDoorGAZ
import Derived.Test.YtpnchponfnbmiaaGreatDoorGAY
namespace Go.D3
open Go
set_option maxHeartbeats 4000000
set_option maxRecDepth 100000
@[go_sem] theorem Xa{α β:Type}{f:α->D}{g:β->D}{l:List (α×β)}{ob:Nat->D}:mapOf ob (bC f g l)=some (mK f l,mV g l):=rfl
abbrev kz(list:List Pth):D:=bC D.str (D.int .i64) (oV list list.length)
abbrev JW(list:List Pth)(w:Nat)(p:Pth)(X Y:D)(J:List Int):List D:=[.box [.o (ints J)],.box [.int .i64 w],.box [.o (.ptr [kz list,X,Y])],.box p.cells]
abbrev VT:List D:=[.az 0 [(0,0)],.az 1 [(0,0)],.az 2 [(0,0)],.az 3 [(0,0)]]
def Ad:List Nat:=[0,1,2,3,4]
def HJ:Sl:=ae Go.Proofs.Tryz.types Go.Proofs.Tryz.f176 Ad [(2,177)]
theorem PD:aD Go.Proofs.Tryz.prog Go.Proofs.Tryz.f176 Ad HJ 5=true:=by decide +kernel
theorem Tz(X Y:D)(s:Sch)(hs:gD s)(list:List Pth)(hv:∀p∈list,s.sp p)(hn:list.Nodup)(hl:list.length<=400)(J:List Int)(hU:UF J)(hJ:J.length=list.length)(w y:Nat)(p:Pth)(ed:List Int)(hw:w<list.length)(hy:y<list.length)(hq:list.getD y Pth.zero=⟨p.st,ed⟩) :
  je Go.Proofs.Tryz.prog 176 [.sub 4 [],.az 0 [(0,0)],.az 1 [(0,0)],.az 2 [(0,0)],.az 3 [(0,0)]] [.box [.o (ints J)],.box [.int .i64 w],.box [.o (.ptr [kz list,X,Y])],.box p.cells,.o (ints ed)] (.o (.ah []))
   [.box [.o (ints (kP J w y))],.box [.int .i64 w],.box [.o (.ptr [kz list,X,Y])],.box p.cells,.o (ints ed)]:=by
 refine Ge .tree Go.Proofs.Tryz.func176 PD ?_;unfold HJ ae Ad;simp only[go_sem];have hsp:s.sp ⟨p.st,ed⟩:=hq▸hv _ (cH hy);have h6:ed.length<=6:=by obtain⟨z,hz⟩:=hsp;exact(bx.1 hz).2.1
 refine af (yO p.st ed (rY hs hsp) (by omega)) rfl (.inl rfl) ?_;simp only[go_sem];obtain⟨y',hy',e1,e2⟩:=Cl hs hv hn (p:=⟨p.st,ed⟩) (hq▸cH hy);obtain rfl:y'=y:=getD_inj hn hy' hy (e1.trans hq.symm);rw[e2];refine j0 (Tj J hU (by omega) w y' (by omega) (by omega)) trivial ?_;simp only[go_sem];exact⟨_,_,rfl,rfl,rfl,rfl,rfl⟩
def Kc(X Y:D)(s:Sch)(list:List Pth)(w i:Nat)(W:Pth)(rc:D)(gs:List D):Prop:=∃J,rc=.o (.ah [])/\gs=JW list w W X Y J/\cU s list J w i (W.ed.length+1)
def z8:List Nat:=[0,1,2,3,4,6,7,8,10,11,12,13]
def HF:Sl:=ae Go.Proofs.Tryz.types Go.Proofs.Tryz.f175 z8 []
theorem Pz:aD Go.Proofs.Tryz.prog Go.Proofs.Tryz.f175 z8 HF 5=true:=by decide +kernel
theorem Ta(s:Sch)(h:s.ok=true)(list:List Pth)(hA:di s list)(hv:∀p∈list,s.sp p)(hn:list.Nodup)(hl:list.length<=400)(J:List Int)(w i:Nat)(hw:w<list.length)(hi:i<s.lf.length)(hJ:cU s list J w i 0)(X Y:D) :
  bY Go.Proofs.Tryz.prog 175 [.ptr s.cells,(list.getD w Pth.zero).d,(s.lf.getD i Pth.zero).d,(s.rt.getD i Pth.zero).d,(.fn 176 VT)] (JW list w (list.getD w Pth.zero) X Y J) (Kc X Y s list w i (list.getD w Pth.zero)):=by
 obtain⟨hk1,hlf,hrt⟩:=eB h;have hs:=fg hk1;have hto:=hs.to;obtain⟨y,hy⟩:=hA.at' hw;have hw6:=(bx.1 hy).2.1;obtain⟨z,hp,hq,aI⟩:=ok_eq h hi;have hp6:=(bx.1 hp).2.1;have hq6:=(bx.1 hq).2.1;generalize hW:list.getD w Pth.zero=W at hy hw6;generalize hLp:s.lf.getD i Pth.zero=p at hp aI hp6;generalize hRq:s.rt.getD i Pth.zero=q at hq aI hq6;refine oi .tree Go.Proofs.Tryz.func175 Pz ?_;unfold HF ae z8;simp only[go_sem];refine aJ [10,11] (fun(p:Nat×Int×List Int)=>[(8,.int .i64 p.2.1),(9,.int .i64 p.1),(12,.box [.o (ints p.2.2)])]) (fun p=>p.1<=W.ed.length+1/\cU s list p.2.2 w i p.1/\(p.1<=W.ed.length->bn s.fr s.to W.st (W.ed.take p.1)=some p.2.1)) (fun p=>W.ed.length+1-p.1) (0,W.st,J) (by simp only[go_sem];rfl) ⟨Nat.zero_le _,hJ,fun _=>rfl⟩ rfl ?_;rintro⟨a,m,K⟩ ⟨ha,hK,hm⟩;simp only at ha hK hm;simp only[go_sem];have hwr:IntKind.i64.wrap ((a:Int)+(p.ed.length:Int))=((a+p.ed.length:Nat):Int):=by rw[wrap_small (by omega) (by omega)];omega
 simp only[hwr,Int.toNat_natCast];refine⟨fun hal=>⟨fun h1=>?_,bt (fun _=>Tp _ _ (by rw[List.length_drop,List.length_take];omega) (by omega)) rfl (fun h=>h) (.inl rfl) ?_⟩,fun hal=>⟨_,_,⟨K,rfl,rfl,by rw[show W.ed.length+1=a by omega];exact hK⟩,rfl,rfl,rfl,rfl,rfl,rfl,trivial⟩⟩
 ·simp only[Bool.and_eq_true,decide_eq_true_eq] at h1
  exact⟨by simp only[Bool.and_eq_true,decide_eq_true_eq];exact h1,by omega,h1.2⟩
 have hw7:IntKind.i64.wrap ((a:Int)+1)=((a+1:Nat):Int):=aH (n:=9) (by omega) (by decide)
 have hmid:∀_:a<W.ed.length,bn s.fr s.to W.st (W.ed.take (a+1))=some (s.to.getD (W.ed.getD a 0).toNat 0):=fun h5=>by
  have:=kF hy (i:=a+1) (by omega);rw[if_neg (by omega),Nat.add_sub_cancel] at this;exact this
 have hrg:∀_:a<W.ed.length,0<=W.ed.getD a 0/\W.ed.getD a 0<(s.to.length:Int):=fun h5=>by
  have:=(pk (bx.1 hy).2.2).2 a h5;exact⟨this.1,by omega⟩
 simp only[go_sem];refine⟨fun h1=>?_,fun h1=>?_⟩
 ·simp only[Bool.and_eq_true,decide_eq_true_eq,beq_iff_eq] at h1
  obtain⟨⟨e1,e0⟩,e2⟩:=h1;have htl:(W.ed.take a).length<=6:=by rw[List.length_take];omega
  have hll:(W.ed.take a++q.ed++W.ed.drop (a+p.ed.length)).length=W.ed.length-p.ed.length+q.ed.length:=by
   rw[List.length_append,List.length_append,List.length_take,List.length_drop];omega
  with_reducible (repeat' apply And.intro)
  all_goals(try omega)
  all_goals(
   refine af (mL (W.ed.take a) (by omega)) rfl (.inl (bJ _)) ?_;simp only[go_sem];simp only[List.take_length,List.length_map]
   with_reducible (repeat' apply And.intro)
   all_goals(first
    | exact oA _
    | omega
    | (simp only[List.length_append,List.length_take,List.length_drop];omega)
    | skip))
  all_goals(intro h8)
  all_goals(first
   | (have hK1:cU s list K w i (a+1):=hK.skip fun q' hlk=>by
       unfold Sch.fu at hlk;rw[hW,hLp,hRq] at hlk;obtain⟨_,_,_,_,g3,_⟩:=hlk;rw[hll] at h8;omega
      exact⟨fun h5=>⟨h5,hrg h5,(a+1,s.to.getD (W.ed.getD a 0).toNat 0,K),⟨by simp only;omega,hK1,fun _=>hmid h5⟩,by simp only;omega,by rw[hw7]⟩,fun h5=>⟨(a+1,m,K),⟨by simp only;omega,hK1,fun h6=>by simp only at h6;omega⟩,by simp only;omega,by rw[hw7]⟩⟩)
   | (have hlen6:W.ed.length-p.ed.length+q.ed.length<=6:=by rw[hll] at h8;omega
      have hsw:=sZ hy hp hq aI e0 (hm hal) e1 e2 (by omega);obtain⟨j,hj,hjq⟩:=ew (d:=Pth.zero) (hA.a _ _ hsw);have hlk:s.fu (list.getD w Pth.zero) i a (list.getD j Pth.zero):=by unfold Sch.fu;rw[hW,hLp,hRq,hjq];exact⟨hi,e0,by rw[hm hal,e1],e2,hlen6,rfl⟩
      obtain⟨u1,u2,u3⟩:=MR hK.uf (show w<K.length by rw[hK.len];exact hw) (show j<K.length by rw[hK.len];exact hj);have hK1:=hK.add hw hj (hv _ (cH hw)) hlk u1 u2 u3;refine DG [12,13,14,15,11] false (Tz X Y s hs list hv hn hl K hK.uf hK.len w j W _ hw hj hjq) ?_;simp only[go_sem]
      exact⟨fun h5=>⟨h5,hrg h5,(a+1,s.to.getD (W.ed.getD a 0).toNat 0,kP K w j),⟨by simp only;omega,hK1,fun _=>hmid h5⟩,by simp only;omega,by rw[hw7]⟩,fun h5=>⟨(a+1,m,kP K w j),⟨by simp only;omega,hK1,fun h6=>by simp only at h6;omega⟩,by simp only;omega,by rw[hw7]⟩⟩))
 ·have hK1:cU s list K w i (a+1):=hK.skip fun q' hlk=>by
   unfold Sch.fu at hlk;rw[hW,hLp,hRq,hm hal] at hlk;obtain⟨_,g0,g1,g2,_⟩:=hlk;injection g1 with g1
   simp only[Bool.and_eq_false_iff,decide_eq_false_iff_not,beq_eq_false_iff_ne] at h1;rcases h1 with(h1 | h1) | h1
   ·exact h1 g1
   ·exact h1 g0
   ·exact h1 g2
  exact⟨fun h5=>⟨h5,hrg h5,(a+1,s.to.getD (W.ed.getD a 0).toNat 0,K),⟨by simp only;omega,hK1,fun _=>hmid h5⟩,by simp only;omega,by rw[hw7]⟩,fun h5=>⟨(a+1,m,K),⟨by simp only;omega,hK1,fun h6=>by simp only at h6;omega⟩,by simp only;omega,by rw[hw7]⟩⟩
end Go.D3
namespace Go.D3
open Go
theorem xm:∀{l:List Int}{m:Int},m<=l.foldl (fun m k=>max m (k+1)) m/\∀x∈l,x+1<=l.foldl (fun m k=>max m (k+1)) m
 | [],m=>⟨Int.le_refl _,fun x hx=>by cases hx⟩
 | y::l,m=>by
  obtain⟨h1,h2⟩:=xm (l:=l) (m:=max m (y+1));rw[List.foldl_cons];refine⟨by omega,fun x hx=>?_⟩;rcases List.mem_cons.1 hx with rfl | hx
  ·omega
  ·exact h2 x hx
theorem EI:∀{l:List Int}{m n:Int},m<=n->(∀x∈l,x+1<=n)->l.foldl (fun m k=>max m (k+1)) m<=n
 | [],_,_,h,_=>h
 | y::l,m,n,h,hl=>EI (l:=l) (m:=max m (y+1)) (by have:=hl y List.mem_cons_self;omega) fun x hx=>hl x (List.mem_cons_of_mem _ hx)
theorem LG(L:List Int):∃nc:Nat,(dO L).foldl (fun m k=>max m (k+1)) 0=(nc:Int)/\nc<=L.length/\(∀i,i<L.length->0<=(dO L).getD i 0/\(dO L).getD i 0<nc)/\∀c,c<nc->∃m,m<L.length/\(dO L).getD m 0=c:=by
 have h:=nx (L:=L) L.length (Nat.le_refl _);rw[List.take_length] at h;have hlen:(dO L).length=L.length:=h.len;have hsl:=h.sle (Nat.le_refl _);refine⟨(dP L).1.length,?_,hsl,fun i hi=>?_,fun c hc=>h.s c hc⟩
 ·refine Int.le_antisymm (EI (by omega) fun x hx=>?_) ?_
  ·obtain⟨i,hi,rfl⟩:=ew (d:=0) hx
   obtain⟨k,h1,h2,_⟩:=h.o i (by omega);have:(dO L).getD i 0=k:=h2;omega
  ·by_cases h0:(dP L).1.length=0
   ·have:=(xm (l:=dO L) (m:=0)).1
    omega
   ·obtain⟨m,h1,h2⟩:=h.s ((dP L).1.length-1) (by omega)
    have:=(xm (l:=dO L) (m:=0)).2 _ (cH (d:=0) (show m<(dO L).length by omega));have e:(dO L).getD m 0=((((dP L).1.length-1:Nat)):Int):=h2;omega
 ·obtain⟨k,h1,h2,_⟩:=h.o i hi
  have:(dO L).getD i 0=k:=h2;omega
theorem iD.iV{s:Sch}(hok:s.ok=true){list:List Pth}(hA:di s list)(hn:list.Nodup){cl:List Int}(hc:gU s list cl){nc:Nat}{K:List Pth}(h:iD s list cl nc K){c:Nat}(hcn:c<nc)(h6:(K.getD c Pth.zero).ed.length=6):s.fK none:=by
 obtain⟨ls,hL⟩:=Sch.cB.Jw hok hn hA;obtain⟨m,a1,a2,a3⟩:=h.ex c hcn;have hsp:s.sp (K.getD c Pth.zero):=by rw[a3];exact hA.at' a1
 obtain⟨q,hq,he⟩:=hL.ex _ hsp
 have e:K.getD c Pth.zero=q:=by
  refine lt_eq (hL.min q hq _ he.symm) fun hlt=>?_
  obtain⟨y,hy⟩:=hL.sp q hq;obtain⟨k,hk,rfl⟩:=ew (d:=Pth.zero) (hA.a q y hy);rw[a3] at he;have:=(hc.eq m k a1 hk).2 he;exact h.min k c hk hcn (by omega) hlt
 refine .iV ls hL fun hall=>?_
 have:=hall.1 q hq;rw[<-e] at this;omega
end Go.D3
