/- CONTRACTS: links of short paths, the reference's side. -/
import Derived.Test.YtaknpcdnmecblaaGreatDoorGAJ
namespace Go.D3
open Go Proofs
set_option maxHeartbeats 4000000
set_option maxRecDepth 100000
theorem Hn{m st:Int}{A B:List Int}{a b c:Nat}(h:(m != st || !(A == B) || decide (6<IntKind.i64.wrap (IntKind.i64.wrap ((a:Int)-b)+c)))=true)(h1:b<=a)(W:a<=6/\c<=6):¬(m=st/\A=B/\a-b+c<=6):=fun⟨I,S,V⟩=>by
 simp only[Bool.or_eq_true,bne_iff_ne,Bool.not_eq_true',beq_eq_false_iff_ne,decide_eq_true_eq] at h;rcases h with(h | h) | h
 ·exact h I
 ·exact h S
 ·rw[wrap_small (n:=(a:Int)-b) (by omega) (by omega),wrap_small (by omega) (by omega)] at h;omega
def NB(s:aa)(list:List U)(rc:D)(gs:List D):Prop:=gs=[]/\∃P,rc=.o (aC P)/\P.length<=30000/\eJ s list P list.length 0 0
def DY:List Nat:=[0,1,4,2,5,6,7,8,9,10,11,12,13]
def L7:Sl:=ah Tryz.types Tryz.f106 DY []
theorem VF:aE Tryz.prog Tryz.f106 DY L7 2=true:=by decide +kernel
theorem Ze(s:aa)(list:List U)(h:s.ok=true)(hA:dQ s list)(hl:list.length<=500):bn Tryz.prog 106 [aa.d s,ae U.d U.zero list] [] (NB s list):=by
 obtain⟨b3,cg,cj⟩:=eX h;have hs:=ic b3;have cm:=hs.to
 have h6:∀{i},i<list.length->(list.getD i U.zero).ed.length<=6:=fun hi=>by
  obtain⟨y,hy⟩:=hA.at' hi;exact(bN.1 hy).2.1
 refine dB .tree Tryz.func106 VF ?_;unfold L7 ah DY;simp only[go_sem];refine au [6,7,8,9,10,11,12] (fun(p:Nat×List (List Int))=>[(4,.o (aC p.2)),(5,.int .i64 p.1)]) (fun p=>p.1<=list.length/\p.2.length<=p.1*56/\eJ s list p.2 p.1 0 0) (fun p=>list.length-p.1) (0,[]) (by simp only[go_sem];rfl) ⟨Nat.zero_le _,Nat.le_refl _,.zero⟩ rfl ?_;rintro⟨w,P⟩ ⟨hw,bT,hP⟩;simp only at hw bT hP;simp only[go_sem];refine⟨fun I=>⟨I,?_⟩,fun I=>⟨_,_,⟨rfl,P,rfl,by omega,by rw[show w=list.length by omega] at hP;exact hP⟩,rfl,rfl,trivial⟩⟩;obtain⟨y,hy⟩:=hA.at' I;have cd:=h6 I;generalize hW:list.getD w U.zero=W at hy cd;refine au [8,9,10,11,12] (fun(p:Nat×List (List Int))=>[(4,.o (aC p.2)),(7,.int .i64 p.1)]) (fun p=>p.1<=s.lf.length/\p.2.length<=w*56+p.1*7/\eJ s list p.2 w p.1 0) (fun p=>s.lf.length-p.1) (0,P) (by simp only[go_sem];rfl) ⟨Nat.zero_le _,by simp only;omega,hP⟩ rfl ?_;rintro⟨i,P1⟩ ⟨hi,a7,ab⟩;simp only at hi a7 ab;simp only[go_sem];refine⟨fun S=>?_,fun S=>⟨(w+1,P1),⟨I,by simp only;omega,ab.zR (by omega)⟩,by simp only;omega,by rw[aw I (by simp only[maxLen];omega)]⟩⟩;obtain⟨z,hp,hq,aK⟩:=ok_eq h S;have b5:=(bN.1 hp).2.1;have b9:=(bN.1 hq).2.1;have b4:=(bN.1 hp).1;generalize Z:s.lf.getD i U.zero=p at hp aK b5 b4;generalize ad:s.rt.getD i U.zero=q at hq aK b9;refine⟨S,by omega,?_⟩;refine au [11,12] (fun(p:Nat×List (List Int))=>[(4,.o (aC p.2)),(10,.int .i64 p.1)]) (fun p=>p.1<=7/\p.2.length<=w*56+i*7+p.1/\eJ s list p.2 w i p.1) (fun p=>7-p.1) (0,P1) (by simp only[go_sem];rfl) ⟨Nat.zero_le _,by simp only;omega,ab⟩ rfl ?_;rintro⟨at',P2⟩ ⟨b0,a8,V⟩;simp only at b0 a8 V;simp only[go_sem];have a6:IntKind.i64.wrap ((at':Int)+(p.ed.length:Int))=((at'+p.ed.length:Nat):Int):=by rw[wrap_small (by omega) (by omega)];omega
 simp only[a6,Int.toNat_natCast]
 have bF:∀m,bp s.fr s.to W.st (W.ed.take at')=some m->¬(m=p.st/\(W.ed.take (at'+p.ed.length)).drop at'=p.ed/\W.ed.length-p.ed.length+q.ed.length<=6)->eJ s list P2 w i (at'+1):=fun m hm hn=>V.skip fun q' hl=>by
  unfold aa.gu at hl;rw[hW,Z,ad] at hl;obtain⟨_,_,g1,g2,g3,_⟩:=hl;rw[hm] at g1;injection g1 with g1
  exact hn ⟨g1,g2,g3⟩
 refine⟨fun hc=>⟨I,fun h0=>?_,fun h0=>?_⟩,fun hc=>⟨(i+1,P2),⟨by simp only;omega,by simp only;omega,V.zQ (by rw[hW,Z];omega)⟩,by simp only;omega,by rw[aw S (by simp only[maxLen];omega)]⟩⟩
 ·have hm:=rm hy (i:=at') (by omega)
  rw[if_neg (by omega)] at hm;have hr:=(ry (bN.1 hy).2.2).2 (at'-1) (by omega);rw[show IntKind.i64.wrap ((at':Int)-1)=((at'-1:Nat):Int) by rw[wrap_small (by omega) (by omega)];omega,Int.toNat_natCast];refine⟨by omega,by omega,?_⟩;generalize s.to.getD (W.ed.getD (at'-1) 0).toNat 0=m at hm
  try rw[hW]
  refine⟨fun h1=>⟨h1,by omega,hc⟩,bf (fun _=>ss _ _ (by rw[List.length_drop,List.length_take];omega)) rfl (fun h=>h) (.inl rfl) ?_⟩;simp only[go_sem];refine⟨fun h1=>by rw[h1];rfl,fun h1=>?_,fun h1=>⟨(at'+1,P2),⟨by simp only;omega,by simp only;omega,bF m hm (Hn h1 (by omega) (by omega))⟩,by simp only;omega,by rw[aw (n:=9) (by omega) (by decide)]⟩,fun h1=>?_⟩
  ·revert h1
   generalize(m != p.st)=b1;generalize((W.ed.take (at'+p.ed.length)).drop at' == p.ed)=b2;cases b1<;>cases b2<;>simp
  ·simp only[Bool.or_eq_false_iff,bne_eq_false_iff_eq,Bool.not_eq_false',beq_iff_eq,decide_eq_false_iff_not] at h1
   obtain⟨⟨e1,e2⟩,e3⟩:=h1;rw[wrap_small (n:=(W.ed.length:Int)-p.ed.length) (by omega) (by omega),wrap_small (by omega) (by omega)] at e3;have a1:=vz hy hp hq aK (by omega) hm e1 e2 (by omega);obtain⟨j,ag,ao,ax⟩:=uk (hA.a _ _ a1);have Y:=V.add I ao (by unfold aa.gu;rw[hW,ax,Z,ad];exact⟨S,by omega,by rw[hm,e1],e2,by omega,rfl⟩);have hlen:(P2++[[(w:Int),(j:Int)]]).length<=w*56+i*7+(at'+1):=by rw[List.length_append,List.length_singleton];omega
   have cc:(W.ed.take at').length<=6:=by rw[List.length_take];omega
   with_reducible (repeat' apply And.intro)
   all_goals(try omega)
   all_goals(
    refine aj (eE (W.ed.take at') (by omega)) rfl (.inl (bJ _)) ?_;simp only[go_sem];simp only[a6,Int.toNat_natCast,List.take_length,hW,List.length_map]
    with_reducible (repeat' apply And.intro)
    all_goals(first
     | exact oP _
     | omega
     | (simp only[List.length_append,List.length_take,List.length_drop];omega)
     | (refine aj (uB list W.st _ (by omega) fun i hi=>Nat.le_trans (h6 hi) (by decide)) rfl (.inl rfl) ?_
        simp only[go_sem,ag]
        exact⟨by omega,(at'+1,_),⟨by simp only;omega,hlen,Y⟩,by simp only;omega,by rw[aw (n:=9) (by omega) (by decide)]⟩)))
 ·have hm:=rm hy (i:=at') (by omega)
  rw[if_pos (by omega)] at hm;rw[hW];obtain⟨m,bg⟩:∃m,m=W.st:=⟨_,rfl⟩;rw[<-bg];have hm:bp s.fr s.to W.st (W.ed.take at')=some m:=by rw[hm,bg]
  refine⟨fun h1=>⟨h1,by omega,hc⟩,bf (fun _=>ss _ _ (by rw[List.length_drop,List.length_take];omega)) rfl (fun h=>h) (.inl rfl) ?_⟩;simp only[go_sem];refine⟨fun h1=>by rw[h1];rfl,fun h1=>?_,fun h1=>⟨(at'+1,P2),⟨by simp only;omega,by simp only;omega,bF m hm (Hn h1 (by omega) (by omega))⟩,by simp only;omega,by rw[aw (n:=9) (by omega) (by decide)]⟩,fun h1=>?_⟩
  ·revert h1
   generalize(m != p.st)=b1;generalize((W.ed.take (at'+p.ed.length)).drop at' == p.ed)=b2;cases b1<;>cases b2<;>simp
  ·simp only[Bool.or_eq_false_iff,bne_eq_false_iff_eq,Bool.not_eq_false',beq_iff_eq,decide_eq_false_iff_not] at h1
   obtain⟨⟨e1,e2⟩,e3⟩:=h1;rw[wrap_small (n:=(W.ed.length:Int)-p.ed.length) (by omega) (by omega),wrap_small (by omega) (by omega)] at e3;have a1:=vz hy hp hq aK (by omega) hm e1 e2 (by omega);obtain⟨j,ag,ao,ax⟩:=uk (hA.a _ _ a1);have Y:=V.add I ao (by unfold aa.gu;rw[hW,ax,Z,ad];exact⟨S,by omega,by rw[hm,e1],e2,by omega,rfl⟩);have hlen:(P2++[[(w:Int),(j:Int)]]).length<=w*56+i*7+(at'+1):=by rw[List.length_append,List.length_singleton];omega
   have cc:(W.ed.take at').length<=6:=by rw[List.length_take];omega
   with_reducible (repeat' apply And.intro)
   all_goals(try omega)
   all_goals(
    refine aj (eE (W.ed.take at') (by omega)) rfl (.inl (bJ _)) ?_;simp only[go_sem];simp only[a6,Int.toNat_natCast,List.take_length,hW,List.length_map]
    with_reducible (repeat' apply And.intro)
    all_goals(first
     | exact oP _
     | omega
     | (simp only[List.length_append,List.length_take,List.length_drop];omega)
     | (refine aj (uB list W.st _ (by omega) fun i hi=>Nat.le_trans (h6 hi) (by decide)) rfl (.inl rfl) ?_
        simp only[go_sem,ag]
        exact⟨by omega,(at'+1,_),⟨by simp only;omega,hlen,Y⟩,by simp only;omega,by rw[aw (n:=9) (by omega) (by decide)]⟩)))
end Go.D3
