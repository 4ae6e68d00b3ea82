/- CONTRACTS: the arrow category: the reference's side. -/
import Derived.Test.YtaknpcdnmecblaaGAH
import Derived.Test.YtaknpcdnmecblaaGAI
namespace Go.D3
open Go Proofs
set_option maxHeartbeats 4000000
set_option maxRecDepth 100000
def yQ:List Nat:=[0,2,1,3,4,5,6,7,8]
def EE:Sl:=al Try.types Try.f60 yQ []
theorem KX:aX Try.prog Try.f60 yQ EE 1=true:=by decide +kernel
theorem Du(c:Cat)(hb:c.cZ=true):aD Try.prog 60 [.v (aL c).d] (.bool true):=by
 obtain⟨hc,-,-⟩:=fS hb;have hfr:=hc.fr;have hto:=hc.to;have hco:=hc.co;have hidn:=hc.aK;have hob0:=hc.iq;have hob8:=hc.jU;have l1:(bN c.ob.toNat).length=c.ob.toNat:=dS;have l2:(bN c.fr.length).length=c.fr.length:=dS;have m1:fj c.ob (bN c.ob.toNat)=true:=by have:=@B5 c.ob.toNat;rwa [Int.toNat_of_nonneg hob0] at this
 have e1:((c.ob.toNat:Int) != c.ob)=false:=by rw[Int.toNat_of_nonneg hob0];simp
 have e2:((c.fr.length:Int) != c.fr.length)=false:=by simp
 simp only[aL];refine a7 Try.func60 KX ?_;unfold EE al yQ;simp only[go_sem]
 with_reducible (repeat' apply And.intro)
 all_goals
  refine aC (wZ c) rfl (.inl rfl) ?_;simp only[go_sem,hb];refine dx (fun _=>wZ c) rfl (fun h=>h) (.inl rfl) ?_;simp only[go_sem,hb,l1,l2,e1,e2];refine aC (td c.ob (bN c.ob.toNat)) rfl (.inl rfl) ?_;simp only[go_sem,m1];refine dx (fun _=>td c.fr.length (bN c.fr.length)) rfl (fun h=>h) (.inl rfl) ?_;simp only[go_sem,B5];refine ba [] (fun a:Nat=>[(5,.int .i64 a)]) (fun a=>a<=c.fr.length) (fun a=>c.fr.length-a) 0 (by simp only[go_sem];rfl) (Nat.zero_le _) rfl ?_;intro a ha;simp only[go_sem];refine⟨fun h=>?_,fun h=>?_⟩
  ·have eA:=jg h
   have x0:=hc.uX h;have y0:=hc.xQ h;have eX:=lb (n:=c.ob.toNat) x0.1 (by omega);have eY:=lb (n:=c.ob.toNat) y0.1 (by omega);simp only[go_sem,eA,eX,eY,l1,l2,Int.toNat_natCast,bne_self_eq_false];exact⟨h,h,h,by omega,h,by omega,by omega,by omega,a+1,by omega,by omega,by rw[aU h (by simp only[maxLen];omega)]⟩
  obtain rfl:a=c.fr.length:=by omega
  refine ba [] (fun x:Nat=>[(6,.int .i64 x)]) (fun x=>x<=c.ob.toNat) (fun x=>c.ob.toNat-x) 0 (by simp only[go_sem];rfl) (Nat.zero_le _) rfl ?_;intro x hx;simp only[go_sem];refine⟨fun h=>?_,fun h=>?_⟩
  ·have eX:=jg (n:=c.ob.toNat) (i:=x) (by omega)
   have i0:=hc.toPre.idx (x:=x) (by omega);have eI:=lb i0.1 i0.2;simp only[go_sem,eX,eI,l1,l2,Int.toNat_natCast,bne_self_eq_false];exact⟨by omega,by omega,by omega,by omega,x+1,by omega,by omega,by rw[aU (n:=9) (by omega) (by simp only[maxLen];omega)]⟩
  obtain rfl:x=c.ob.toNat:=by omega
  refine ba [8] (fun a:Nat=>[(7,.int .i64 a)]) (fun a=>a<=c.fr.length) (fun a=>c.fr.length-a) 0 (by simp only[go_sem];rfl) (Nat.zero_le _) rfl ?_;intro a ha;simp only[go_sem];intro h
  ·refine ba [] (fun b:Nat=>[(8,.int .i64 b)]) (fun b=>b<=c.fr.length) (fun b=>c.fr.length-b) 0 (by simp only[go_sem];rfl) (Nat.zero_le _) rfl ?_
   intro b hb';simp only[go_sem];refine⟨fun h2=>?_,fun h2=>?_⟩
   ·have eA:=jg h
    have eB:=jg h2;by_cases hab:c.to.getD a 0=c.fr.getD b 0
    ·have c0:=hc.jA h h2 hab
     simp only[Cat.aG,Int.toNat_natCast] at c0;have eC:=lb (n:=c.fr.length) c0.1 c0.2.1;have r0:=hc.row a h;simp only[go_sem,hab,eA,eB,eC,l2,Int.toNat_natCast,bne_self_eq_false,beq_self_eq_true];exact⟨by omega,h2,by omega,by omega,by omega,h,by omega,h2,by omega,b+1,by omega,by omega,by rw[aU h2 (by simp only[maxLen];omega)]⟩
    ·have hab':=beq_eq_false_iff_ne.2 hab
     simp only[go_sem,hab',hab,eA,eB,l2,false_implies,true_and];exact⟨by omega,h2,b+1,by omega,by omega,by rw[aU h2 (by simp only[maxLen];omega)]⟩
   ·obtain rfl:b=c.fr.length:=by omega
    exact⟨a+1,by omega,by omega,by rw[aU h (by simp only[maxLen];omega)]⟩
def yT:List Nat:=[0,1,4,2,3]
def EH:Sl:=al Try.types Try.f46 yT []
theorem K0:aX Try.prog Try.f46 yT EH 2=true:=by decide +kernel
theorem Nv(c:Cat)(hb:c.cZ=true):aD Try.prog 46 [.v (aL c).d,.v (aL c).d] (.int .i64 0):=by
 refine a7 Try.func46 K0 ?_;unfold EH al yT;simp only[go_sem];refine aC (Du c hb) rfl (.inl rfl) ?_;simp only[go_sem];refine dx (fun _=>Du c hb) rfl (fun h=>h) (.inl rfl) ?_;simp only[go_sem]
def yY:List Nat:=[0,1,4,5,6,2,3,7,8]
def EM:Sl:=al Try.types Try.f49 yY []
theorem K6:aX Try.prog Try.f49 yY EM 2=true:=by decide +kernel
theorem Nu(c:Cat)(hc:c.Shape)(h8:(ah c).length<=8):aD Try.prog 49 [.v (aL c).d,.v (aL c).d] (.au [(nu c (if(an c).length<=40 then lW c else[])).d,aB (ah c),aB (an c)]):=by
 have hk:∀k,k<3->∀i,i<(ah c).length->k<((ah c).getD i []).length:=fun k hk i hi=>by
  obtain⟨a,b,g,o⟩:=gR hi;rw[o.eq];exact hk
 refine a7 Try.func49 K6 ?_;unfold EM al yY;simp only[go_sem];refine aC (DD c hc) rfl (.inl (im _)) ?_;simp only[go_sem];refine aC (Nr c hc h8) rfl (.inl (im _)) ?_;simp only[go_sem];refine aC (DB (ah c) 0 (by omega) (hk 0 (by decide))) rfl (.inl (ch _)) ?_;simp only[go_sem];refine aC (DB (ah c) 1 (by omega) (hk 1 (by decide))) rfl (.inl (ch _)) ?_;simp only[go_sem];refine aC (Ns c hc h8) rfl (.inl (eM _)) ?_;simp only[go_sem]
def oW(c:Cat):D:=if(ah c).length<=8 then(if(an c).length<=40 then .au [(fe c).d,aB (ah c),aB (an c),.int .i64 0] else .au [Cat.zero.d,aB [],aB [],.int .i64 3]) else .au [Cat.zero.d,aB [],aB [],.int .i64 3]
def yW:List Nat:=[0,1,4,5,6,7,2,3,8,9,10,11]
def EK:Sl:=al Try.types Try.f30 yW []
theorem K4:aX Try.prog Try.f30 yW EK 2=true:=by decide +kernel
theorem Nt(c:Cat)(hb:c.cZ=true):aD Try.prog 30 [.v (aL c).d,.v (aL c).d] (oW c):=by
 obtain⟨hc,-,-⟩:=fS hb;have hob8:=hc.jU;have hO:=@vL c c.ob.toNat hc.fr (by omega) hob8;refine a7 Try.func30 K4 ?_;unfold EK al yW;simp only[go_sem];refine aC (Nv c hb) rfl (.inl rfl) ?_;simp only[go_sem];refine⟨fun h=>(by cases h),fun _=>?_⟩;refine aC (Nh c hc) rfl (.inl rfl) ?_;simp only[go_sem];refine aC (DD c hc) rfl (.inl (im _)) ?_;simp only[go_sem];unfold oW;refine⟨fun h=>?_,fun h=>?_⟩
 ·rw[if_neg (by omega)];rfl
 rw[if_pos (by omega)];refine aC (Nu c hc (by omega)) rfl (.inl (by simp only[D.bp,dA,eM,im,Bool.and_self])) ?_;simp only[go_sem];refine aC (Dy (nu c (if(an c).length<=40 then lW c else[]))) rfl (.inl rfl) ?_;have e1:(nu c (if(an c).length<=40 then lW c else[])).fr.length=(an c).length:=by simp[nu]
 have e2:(nu c (if(an c).length<=40 then lW c else[])).ob=(ah c).length:=rfl;rw[e1,e2,decide_eq_true (show((ah c).length:Int)<=8 by omega)];simp only[go_sem];by_cases hA:(an c).length<=40
 ·rw[if_pos hA,decide_eq_true (show((an c).length:Int)<=40 by omega)]
  simp only[go_sem];rw[if_pos hA];rfl
 ·rw[if_neg hA,decide_eq_false (show ¬((an c).length:Int)<=40 by omega)]
  simp only[go_sem];rfl
theorem JY(c:Cat):(oW c).bp=true:=by
 unfold oW;split
 ·split<;>simp only[D.bp,dA,eM,im,Bool.and_self]
 ·simp only[D.bp,dA,eM,im,Bool.and_self]
def yA:List Nat:=[0,1,4,5,2,3,6,9]
def El:Sl:=al Try.types Try.f14 yA []
theorem KG:aX Try.prog Try.f14 yA El 2=true:=by decide +kernel
theorem Nk(c:Cat)(hb:c.cZ=true):aD Try.prog 14 [.v (aL c).d,.v (aL c).d] (.au [(en c).1.d,.int .i64 (en c).2]):=by
 refine a7 Try.func14 KG ?_;unfold El al yA;simp only[go_sem];refine aC (Nt c hb) rfl (.inl (JY c)) ?_;unfold en oW;rw[if_pos hb];by_cases h1:(ah c).length<=8
 ·rw[if_pos h1,if_pos h1]
  by_cases h2:(an c).length<=40
  ·rw[if_pos h2,if_pos h2]
   simp only[go_sem]
   all_goals rfl
  ·rw[if_neg h2,if_neg h2]
   simp only[go_sem]
   all_goals rfl
 ·rw[if_neg h1,if_neg h1]
  simp only[go_sem]
  all_goals rfl
def yz:List Nat:=[0,2,3,1]
def Ek:Sl:=al Try.types Try.f5 yz []
theorem KF:aX Try.prog Try.f5 yz Ek 1=true:=by decide +kernel
theorem Nj(c:Cat):aD Try.prog 5 [.v c.d] (.au [(en c).1.d,.int .i64 (en c).2]):=by
 refine a7 Try.func5 KF ?_;unfold Ek al yz;simp only[go_sem];refine aC (wZ c) rfl (.inl rfl) ?_;simp only[go_sem];refine⟨fun h=>?_,fun h=>?_⟩
 ·simp only[Bool.not_eq_true'] at h
  unfold en;rw[h];rfl
 ·simp only[Bool.not_eq_false'] at h
  obtain⟨hc,-,-⟩:=fS h;have hcost:=An hc;refine aC (DA c hc hcost) rfl (.inl (pZ _)) ?_;simp only[go_sem];refine aC (DA c hc hcost) rfl (.inl (pZ _)) ?_;simp only[go_sem];refine aC (Nk c h) rfl (.inl (by simp only[D.bp,dA,eM,Bool.and_self])) ?_;simp only[go_sem]
  all_goals rfl
end Go.D3
