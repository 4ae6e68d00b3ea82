/- CONTRACTS: links of short paths, the reference's side. -/
import Derived.Test.YtpjbamibcngihaaGreatDoorGBF
namespace Go.D3
open Go
set_option maxHeartbeats 4000000
set_option maxRecDepth 100000
def Lj(s:aa)(list:List U)(rc:D)(gs:List D):Prop:=gs=[]/\∃P,rc=.o (aI P)/\P.length<=30000/\jc s list P
def BV:List Nat:=[0,1,4,2,5,6,7,8,9,10,11,12,13]
def JT:Sl:=ak Go.Proofs.Tryz.types Go.Proofs.Tryz.f115 BV []
theorem R7:aF Go.Proofs.Tryz.prog Go.Proofs.Tryz.f115 BV JT 2=true:=by decide +kernel
theorem Vc(s:aa)(list:List U)(h:s.ok=true)(hA:jS s list)(hl:list.length<=500):bM Go.Proofs.Tryz.prog 115 [aa.d s,ae U.d U.zero list] [] (Lj s list):=by
 obtain⟨hk1,hlf,hrt⟩:=dM h;have hs:=eA hk1;have hto:=hs.to
 have h6:∀{i},i<list.length->(list.getD i U.zero).ed.length<=6:=fun hi=>by
  obtain⟨y,hy⟩:=hA.at' hi;exact(dS.1 hy).2.1
 refine dN .tree Go.Proofs.Tryz.func115 R7 ?_;unfold JT ak BV;simp only[go_sem];refine aE [6,7,8,9,10,11,12] (fun(p:Nat×List (List Int))=>[(4,.o (aI p.2)),(5,.int .i64 p.1)]) (fun p=>p.1<=list.length/\p.2.length<=p.1*56/\jc s list p.2) (fun p=>list.length-p.1) (0,[]) (by simp only[go_sem];rfl) ⟨Nat.zero_le _,Nat.le_refl _,fun p hp=>by cases hp⟩ rfl ?_;rintro⟨w,P⟩ ⟨hw,hPl,hP⟩;simp only at hw hPl hP;simp only[go_sem];refine⟨fun hwl=>⟨hwl,?_⟩,fun hwl=>⟨_,_,⟨rfl,P,rfl,by omega,hP⟩,rfl,rfl,trivial⟩⟩;obtain⟨y,hy⟩:=hA.at' hwl;have hw6:=h6 hwl;generalize hW:list.getD w U.zero=W at hy hw6;refine aE [8,9,10,11,12] (fun(p:Nat×List (List Int))=>[(4,.o (aI p.2)),(7,.int .i64 p.1)]) (fun p=>p.1<=s.lf.length/\p.2.length<=w*56+p.1*7/\jc s list p.2) (fun p=>s.lf.length-p.1) (0,P) (by simp only[go_sem];rfl) ⟨Nat.zero_le _,by simp only;omega,hP⟩ rfl ?_;rintro⟨i,P1⟩ ⟨hi,hPl1,hP1⟩;simp only at hi hPl1 hP1;simp only[go_sem];refine⟨fun hil=>?_,fun hil=>⟨(w+1,P1),⟨hwl,by simp only;omega,hP1⟩,by simp only;omega,by rw[aM hwl (by simp only[maxLen];omega)]⟩⟩;obtain⟨z,hp,hq,aO⟩:=ok_eq h hil;have hp6:=(dS.1 hp).2.1;have hq6:=(dS.1 hq).2.1;have hp0:=(dS.1 hp).1;generalize s.lf.getD i U.zero=p at hp aO hp6 hp0;generalize s.rt.getD i U.zero=q at hq aO hq6;refine⟨hil,by omega,?_⟩;refine aE [11,12] (fun(p:Nat×List (List Int))=>[(4,.o (aI p.2)),(10,.int .i64 p.1)]) (fun p=>p.1<=7/\p.2.length<=w*56+i*7+p.1/\jc s list p.2) (fun p=>7-p.1) (0,P1) (by simp only[go_sem];rfl) ⟨Nat.zero_le _,by simp only;omega,hP1⟩ rfl ?_;rintro⟨at',P2⟩ ⟨hat,hPl2,hP2⟩;simp only at hat hPl2 hP2;simp only[go_sem];have hwr:IntKind.i64.wrap ((at':Int)+(p.ed.length:Int))=((at'+p.ed.length:Nat):Int):=by rw[wrap_small (by omega) (by omega)];omega
 simp only[hwr,Int.toNat_natCast];refine⟨fun hc=>⟨hwl,fun h0=>?_,fun h0=>?_⟩,fun hc=>⟨(i+1,P2),⟨by simp only;omega,by simp only;omega,hP2⟩,by simp only;omega,by rw[aM hil (by simp only[maxLen];omega)]⟩⟩
 ·have hm:=s9 hy (i:=at') (by omega)
  rw[if_neg (by omega)] at hm;have hr:=(tq (dS.1 hy).2.2).2 (at'-1) (by omega);rw[show IntKind.i64.wrap ((at':Int)-1)=((at'-1:Nat):Int) by rw[wrap_small (by omega) (by omega)];omega,Int.toNat_natCast];refine⟨by omega,by omega,?_⟩;generalize s.to.getD (W.ed.getD (at'-1) 0).toNat 0=m at hm
  try rw[hW]
  refine⟨fun h1=>⟨h1,by omega,hc⟩,bt (fun _=>u5 _ _ (by rw[List.length_drop,List.length_take];omega)) rfl (fun h=>h) (.inl rfl) ?_⟩;simp only[go_sem];refine⟨fun h1=>by rw[h1];rfl,fun h1=>?_,fun h1=>⟨(at'+1,P2),⟨by simp only;omega,by simp only;omega,hP2⟩,by simp only;omega,by rw[aM (n:=9) (by omega) (by decide)]⟩,fun h1=>?_⟩
  ·revert h1
   generalize(m != p.st)=b1;generalize((W.ed.take (at'+p.ed.length)).drop at' == p.ed)=b2;cases b1<;>cases b2<;>simp
  ·simp only[Bool.or_eq_false_iff,bne_eq_false_iff_eq,Bool.not_eq_false',beq_iff_eq,decide_eq_false_iff_not] at h1
   obtain⟨⟨e1,e2⟩,e3⟩:=h1;rw[wrap_small (n:=(W.ed.length:Int)-p.ed.length) (by omega) (by omega),wrap_small (by omega) (by omega)] at e3;have hsw:=D5 hy hp hq aO (by omega) hm e1 e2 (by omega);obtain⟨j,hj1,hj2,hj3⟩:=yQ (hA.a _ _ hsw);have hadd:=hP2.add hwl hj2 (by rw[hW,hj3]) (by rw[hW,hj3,hy,hsw]);have hlen:(P2++[[(w:Int),(j:Int)]]).length<=w*56+i*7+(at'+1):=by rw[List.length_append,List.length_singleton];omega
   have htl:(W.ed.take at').length<=6:=by rw[List.length_take];omega
   with_reducible (repeat' apply And.intro)
   all_goals(try omega)
   all_goals(
    refine av (iX (W.ed.take at') (by omega)) rfl (.inl (bZ _)) ?_;simp only[go_sem];simp only[hwr,Int.toNat_natCast,List.take_length,hW,List.length_map]
    with_reducible (repeat' apply And.intro)
    all_goals(first
     | exact pZ _
     | omega
     | (simp only[List.length_append,List.length_take,List.length_drop];omega)
     | (refine av (rQ list W.st _ (by omega) fun i hi=>Nat.le_trans (h6 hi) (by decide)) rfl (.inl rfl) ?_
        simp only[go_sem,hj1]
        exact⟨by omega,(at'+1,_),⟨by simp only;omega,hlen,hadd⟩,by simp only;omega,by rw[aM (n:=9) (by omega) (by decide)]⟩)))
 ·have hm:=s9 hy (i:=at') (by omega)
  rw[if_pos (by omega)] at hm;rw[hW];obtain⟨m,hme⟩:∃m,m=W.st:=⟨_,rfl⟩;rw[<-hme];have hm:bG s.fr s.to W.st (W.ed.take at')=some m:=by rw[hm,hme]
  refine⟨fun h1=>⟨h1,by omega,hc⟩,bt (fun _=>u5 _ _ (by rw[List.length_drop,List.length_take];omega)) rfl (fun h=>h) (.inl rfl) ?_⟩;simp only[go_sem];refine⟨fun h1=>by rw[h1];rfl,fun h1=>?_,fun h1=>⟨(at'+1,P2),⟨by simp only;omega,by simp only;omega,hP2⟩,by simp only;omega,by rw[aM (n:=9) (by omega) (by decide)]⟩,fun h1=>?_⟩
  ·revert h1
   generalize(m != p.st)=b1;generalize((W.ed.take (at'+p.ed.length)).drop at' == p.ed)=b2;cases b1<;>cases b2<;>simp
  ·simp only[Bool.or_eq_false_iff,bne_eq_false_iff_eq,Bool.not_eq_false',beq_iff_eq,decide_eq_false_iff_not] at h1
   obtain⟨⟨e1,e2⟩,e3⟩:=h1;rw[wrap_small (n:=(W.ed.length:Int)-p.ed.length) (by omega) (by omega),wrap_small (by omega) (by omega)] at e3;have hsw:=D5 hy hp hq aO (by omega) hm e1 e2 (by omega);obtain⟨j,hj1,hj2,hj3⟩:=yQ (hA.a _ _ hsw);have hadd:=hP2.add hwl hj2 (by rw[hW,hj3]) (by rw[hW,hj3,hy,hsw]);have hlen:(P2++[[(w:Int),(j:Int)]]).length<=w*56+i*7+(at'+1):=by rw[List.length_append,List.length_singleton];omega
   have htl:(W.ed.take at').length<=6:=by rw[List.length_take];omega
   with_reducible (repeat' apply And.intro)
   all_goals(try omega)
   all_goals(
    refine av (iX (W.ed.take at') (by omega)) rfl (.inl (bZ _)) ?_;simp only[go_sem];simp only[hwr,Int.toNat_natCast,List.take_length,hW,List.length_map]
    with_reducible (repeat' apply And.intro)
    all_goals(first
     | exact pZ _
     | omega
     | (simp only[List.length_append,List.length_take,List.length_drop];omega)
     | (refine av (rQ list W.st _ (by omega) fun i hi=>Nat.le_trans (h6 hi) (by decide)) rfl (.inl rfl) ?_
        simp only[go_sem,hj1]
        exact⟨by omega,(at'+1,_),⟨by simp only;omega,hlen,hadd⟩,by simp only;omega,by rw[aM (n:=9) (by omega) (by decide)]⟩)))
end Go.D3
