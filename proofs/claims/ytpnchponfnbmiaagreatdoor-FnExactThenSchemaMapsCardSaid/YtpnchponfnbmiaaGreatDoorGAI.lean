/- CONTRACTS: links of short paths, the reference's side. -/
import Derived.Test.YtpnchponfnbmiaaGreatDoorGAH
namespace Go.D3
open Go
set_option maxHeartbeats 4000000
set_option maxRecDepth 100000
theorem Et{m st:Int}{A B:List Int}{a b c:Nat}(h:(m != st || !(A == B) || decide (6<IntKind.i64.wrap (IntKind.i64.wrap ((a:Int)-b)+c)))=true)(h1:b<=a)(h2:a<=6/\c<=6):¬(m=st/\A=B/\a-b+c<=6):=fun⟨e1,e2,e3⟩=>by
 simp only[Bool.or_eq_true,bne_iff_ne,Bool.not_eq_true',beq_eq_false_iff_ne,decide_eq_true_eq] at h;rcases h with(h | h) | h
 ·exact h e1
 ·exact h e2
 ·rw[wrap_small (n:=(a:Int)-b) (by omega) (by omega),wrap_small (by omega) (by omega)] at h;omega
def Kd(s:Sch)(list:List Pth)(rc:D)(gs:List D):Prop:=gs=[]/\∃P,rc=.o (aW P)/\P.length<=30000/\dM s list P list.length 0 0
def Bu:List Nat:=[0,1,4,2,5,6,7,8,9,10,11,12,13]
def I3:Sl:=ae Go.Proofs.Tryz.types Go.Proofs.Tryz.f101 Bu []
theorem QU:aD Go.Proofs.Tryz.prog Go.Proofs.Tryz.f101 Bu I3 2=true:=by decide +kernel
theorem TT(s:Sch)(list:List Pth)(h:s.ok=true)(hA:di s list)(hl:list.length<=500):bY Go.Proofs.Tryz.prog 101 [Sch.d s,U Pth.d Pth.zero list] [] (Kd s list):=by
 obtain⟨hk1,hlf,hrt⟩:=eB h;have hs:=fg hk1;have hto:=hs.to
 have h6:∀{i},i<list.length->(list.getD i Pth.zero).ed.length<=6:=fun hi=>by
  obtain⟨y,hy⟩:=hA.at' hi;exact(bx.1 hy).2.1
 refine oi .tree Go.Proofs.Tryz.func101 QU ?_;unfold I3 ae Bu;simp only[go_sem];refine aJ [6,7,8,9,10,11,12] (fun(p:Nat×List (List Int))=>[(4,.o (aW p.2)),(5,.int .i64 p.1)]) (fun p=>p.1<=list.length/\p.2.length<=p.1*56/\dM s list p.2 p.1 0 0) (fun p=>list.length-p.1) (0,[]) (by simp only[go_sem];rfl) ⟨Nat.zero_le _,Nat.le_refl _,.zero⟩ rfl ?_;rintro⟨w,P⟩ ⟨hw,hPl,hP⟩;simp only at hw hPl hP;simp only[go_sem];refine⟨fun hwl=>⟨hwl,?_⟩,fun hwl=>⟨_,_,⟨rfl,P,rfl,by omega,by rw[show w=list.length by omega] at hP;exact hP⟩,rfl,rfl,trivial⟩⟩;obtain⟨y,hy⟩:=hA.at' hwl;have hw6:=h6 hwl;generalize hW:list.getD w Pth.zero=W at hy hw6;refine aJ [8,9,10,11,12] (fun(p:Nat×List (List Int))=>[(4,.o (aW p.2)),(7,.int .i64 p.1)]) (fun p=>p.1<=s.lf.length/\p.2.length<=w*56+p.1*7/\dM s list p.2 w p.1 0) (fun p=>s.lf.length-p.1) (0,P) (by simp only[go_sem];rfl) ⟨Nat.zero_le _,by simp only;omega,hP⟩ rfl ?_;rintro⟨i,P1⟩ ⟨hi,hPl1,hP1⟩;simp only at hi hPl1 hP1;simp only[go_sem];refine⟨fun hil=>?_,fun hil=>⟨(w+1,P1),⟨hwl,by simp only;omega,hP1.xw (by omega)⟩,by simp only;omega,by rw[aH hwl (by simp only[maxLen];omega)]⟩⟩;obtain⟨z,hp,hq,aI⟩:=ok_eq h hil;have hp6:=(bx.1 hp).2.1;have hq6:=(bx.1 hq).2.1;have hp0:=(bx.1 hp).1;generalize hLp:s.lf.getD i Pth.zero=p at hp aI hp6 hp0;generalize hRq:s.rt.getD i Pth.zero=q at hq aI hq6;refine⟨hil,by omega,?_⟩;refine aJ [11,12] (fun(p:Nat×List (List Int))=>[(4,.o (aW p.2)),(10,.int .i64 p.1)]) (fun p=>p.1<=7/\p.2.length<=w*56+i*7+p.1/\dM s list p.2 w i p.1) (fun p=>7-p.1) (0,P1) (by simp only[go_sem];rfl) ⟨Nat.zero_le _,by simp only;omega,hP1⟩ rfl ?_;rintro⟨at',P2⟩ ⟨hat,hPl2,hP2⟩;simp only at hat hPl2 hP2;simp only[go_sem];have hwr:IntKind.i64.wrap ((at':Int)+(p.ed.length:Int))=((at'+p.ed.length:Nat):Int):=by rw[wrap_small (by omega) (by omega)];omega
 simp only[hwr,Int.toNat_natCast]
 have hsk:∀m,bn s.fr s.to W.st (W.ed.take at')=some m->¬(m=p.st/\(W.ed.take (at'+p.ed.length)).drop at'=p.ed/\W.ed.length-p.ed.length+q.ed.length<=6)->dM s list P2 w i (at'+1):=fun m hm hn=>hP2.skip fun q' hl=>by
  unfold Sch.fu at hl;rw[hW,hLp,hRq] at hl;obtain⟨_,_,g1,g2,g3,_⟩:=hl;rw[hm] at g1;injection g1 with g1
  exact hn ⟨g1,g2,g3⟩
 refine⟨fun hc=>⟨hwl,fun h0=>?_,fun h0=>?_⟩,fun hc=>⟨(i+1,P2),⟨by simp only;omega,by simp only;omega,hP2.xu (by rw[hW,hLp];omega)⟩,by simp only;omega,by rw[aH hil (by simp only[maxLen];omega)]⟩⟩
 ·have hm:=kF hy (i:=at') (by omega)
  rw[if_neg (by omega)] at hm;have hr:=(pk (bx.1 hy).2.2).2 (at'-1) (by omega);rw[show IntKind.i64.wrap ((at':Int)-1)=((at'-1:Nat):Int) by rw[wrap_small (by omega) (by omega)];omega,Int.toNat_natCast];refine⟨by omega,by omega,?_⟩;generalize s.to.getD (W.ed.getD (at'-1) 0).toNat 0=m at hm
  try rw[hW]
  refine⟨fun h1=>⟨h1,by omega,hc⟩,bt (fun _=>qf _ _ (by rw[List.length_drop,List.length_take];omega)) rfl (fun h=>h) (.inl rfl) ?_⟩;simp only[go_sem];refine⟨fun h1=>by rw[h1];rfl,fun h1=>?_,fun h1=>⟨(at'+1,P2),⟨by simp only;omega,by simp only;omega,hsk m hm (Et h1 (by omega) (by omega))⟩,by simp only;omega,by rw[aH (n:=9) (by omega) (by decide)]⟩,fun h1=>?_⟩
  ·revert h1
   generalize(m != p.st)=b1;generalize((W.ed.take (at'+p.ed.length)).drop at' == p.ed)=b2;cases b1<;>cases b2<;>simp
  ·simp only[Bool.or_eq_false_iff,bne_eq_false_iff_eq,Bool.not_eq_false',beq_iff_eq,decide_eq_false_iff_not] at h1
   obtain⟨⟨e1,e2⟩,e3⟩:=h1;rw[wrap_small (n:=(W.ed.length:Int)-p.ed.length) (by omega) (by omega),wrap_small (by omega) (by omega)] at e3;have hsw:=sZ hy hp hq aI (by omega) hm e1 e2 (by omega);obtain⟨j,hj1,hj2,hj3⟩:=rL (hA.a _ _ hsw);have hadd:=hP2.add hwl hj2 (by unfold Sch.fu;rw[hW,hj3,hLp,hRq];exact⟨hil,by omega,by rw[hm,e1],e2,by omega,rfl⟩);have hlen:(P2++[[(w:Int),(j:Int)]]).length<=w*56+i*7+(at'+1):=by rw[List.length_append,List.length_singleton];omega
   have htl:(W.ed.take at').length<=6:=by rw[List.length_take];omega
   with_reducible (repeat' apply And.intro)
   all_goals(try omega)
   all_goals(
    refine af (gP (W.ed.take at') (by omega)) rfl (.inl (bJ _)) ?_;simp only[go_sem];simp only[hwr,Int.toNat_natCast,List.take_length,hW,List.length_map]
    with_reducible (repeat' apply And.intro)
    all_goals(first
     | exact oA _
     | omega
     | (simp only[List.length_append,List.length_take,List.length_drop];omega)
     | (refine af (rT list W.st _ (by omega) fun i hi=>Nat.le_trans (h6 hi) (by decide)) rfl (.inl rfl) ?_
        simp only[go_sem,hj1]
        exact⟨by omega,(at'+1,_),⟨by simp only;omega,hlen,hadd⟩,by simp only;omega,by rw[aH (n:=9) (by omega) (by decide)]⟩)))
 ·have hm:=kF hy (i:=at') (by omega)
  rw[if_pos (by omega)] at hm;rw[hW];obtain⟨m,hme⟩:∃m,m=W.st:=⟨_,rfl⟩;rw[<-hme];have hm:bn s.fr s.to W.st (W.ed.take at')=some m:=by rw[hm,hme]
  refine⟨fun h1=>⟨h1,by omega,hc⟩,bt (fun _=>qf _ _ (by rw[List.length_drop,List.length_take];omega)) rfl (fun h=>h) (.inl rfl) ?_⟩;simp only[go_sem];refine⟨fun h1=>by rw[h1];rfl,fun h1=>?_,fun h1=>⟨(at'+1,P2),⟨by simp only;omega,by simp only;omega,hsk m hm (Et h1 (by omega) (by omega))⟩,by simp only;omega,by rw[aH (n:=9) (by omega) (by decide)]⟩,fun h1=>?_⟩
  ·revert h1
   generalize(m != p.st)=b1;generalize((W.ed.take (at'+p.ed.length)).drop at' == p.ed)=b2;cases b1<;>cases b2<;>simp
  ·simp only[Bool.or_eq_false_iff,bne_eq_false_iff_eq,Bool.not_eq_false',beq_iff_eq,decide_eq_false_iff_not] at h1
   obtain⟨⟨e1,e2⟩,e3⟩:=h1;rw[wrap_small (n:=(W.ed.length:Int)-p.ed.length) (by omega) (by omega),wrap_small (by omega) (by omega)] at e3;have hsw:=sZ hy hp hq aI (by omega) hm e1 e2 (by omega);obtain⟨j,hj1,hj2,hj3⟩:=rL (hA.a _ _ hsw);have hadd:=hP2.add hwl hj2 (by unfold Sch.fu;rw[hW,hj3,hLp,hRq];exact⟨hil,by omega,by rw[hm,e1],e2,by omega,rfl⟩);have hlen:(P2++[[(w:Int),(j:Int)]]).length<=w*56+i*7+(at'+1):=by rw[List.length_append,List.length_singleton];omega
   have htl:(W.ed.take at').length<=6:=by rw[List.length_take];omega
   with_reducible (repeat' apply And.intro)
   all_goals(try omega)
   all_goals(
    refine af (gP (W.ed.take at') (by omega)) rfl (.inl (bJ _)) ?_;simp only[go_sem];simp only[hwr,Int.toNat_natCast,List.take_length,hW,List.length_map]
    with_reducible (repeat' apply And.intro)
    all_goals(first
     | exact oA _
     | omega
     | (simp only[List.length_append,List.length_take,List.length_drop];omega)
     | (refine af (rT list W.st _ (by omega) fun i hi=>Nat.le_trans (h6 hi) (by decide)) rfl (.inl rfl) ?_
        simp only[go_sem,hj1]
        exact⟨by omega,(at'+1,_),⟨by simp only;omega,hlen,hadd⟩,by simp only;omega,by rw[aH (n:=9) (by omega) (by decide)]⟩)))
end Go.D3
