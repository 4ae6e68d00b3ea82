/- CONTRACTS: all short paths, the program's side. -/
import Derived.Test.YtpnchponfnbmiaaGreatDoorGAY
import Derived.Test.YtpnchponfnbmiaaGreatDoorGAG
namespace Go.D3
open Go
set_option maxHeartbeats 4000000
set_option maxRecDepth 100000
def sx(s:Sch)(o:List Pth):Prop:=s.nd.toNat<=o.length/\(∀j,s.nd.toNat<=j->j<o.length->(o.getD j Pth.zero).ed≠[])/\∀j,j<s.nd.toNat->(o.getD j Pth.zero).ed=[]
structure vD(s:Sch)(o:List Pth):Prop where
 a:di s o
 nd:o.Nodup
 len:o.length<=400
 f:sx s o
def Kk(s:Sch)(rc:D)(gs:List D):Prop:=gs=[]/\∃l,rc=.o (.ah l)/\((∃o,l=[U Pth.d Pth.zero o,.bj]/\vD s o)\/∃m,l=[U Pth.d Pth.zero [],.bp 181 (.agg [.str m])]/\¬s.fits)
def Ag:List Nat:=[0,2,3,4,5,6,7,9,10,15,16,50,51,52]
def HM:Sl:=ae Go.Proofs.Tryz.types Go.Proofs.Tryz.f172 Ag []
theorem PG:aD Go.Proofs.Tryz.prog Go.Proofs.Tryz.f172 Ag HM 1=true:=by decide +kernel
theorem Tf(s:Sch)(hs:gD s):bY Go.Proofs.Tryz.prog 172 [.ptr s.cells] [] (Kk s):=by
 have h0:=hs.n0;have h8:=hs.n8;have hf:=hs.f8;have hto:=hs.to;refine oi .tree Go.Proofs.Tryz.func172 PG ?_;unfold HM ae Ag;simp only[go_sem];refine aJ [4] (fun(i:Nat)=>[(3,.o (U Pth.d Pth.zero (im i))),(10,.int .i64 i)]) (fun i=>(i:Int)<=s.nd) (fun i=>s.nd.toNat-i) 0 (by simp only[go_sem];rfl) h0 rfl ?_;intro i hi;simp only[go_sem];refine⟨fun h=>?_,fun h=>?_⟩
 ·rw[nV]
  exact⟨by omega,i+1,by omega,by omega,by rw[aH (n:=9) (by omega) (by decide),EW]⟩
 obtain rfl:i=s.nd.toNat:=by omega
 refine aJ [6,7,8,11,12,13] (fun(p:Nat×List Pth)=>[(3,.o (U Pth.d Pth.zero p.2)),(5,.int .i64 p.1)]) (fun p=>p.1<=p.2.length/\p.2.length<=400/\eU s p.2 p.1/\iF p.2 p.1 0/\sx s p.2) (fun p=>400-p.1) (0,im s.nd.toNat) (by simp only[go_sem];rfl) ⟨Nat.zero_le _,by rw[nV];omega,EX hs,.zero,⟨by rw[nV];exact Nat.le_refl _,fun j h1 h2=>by rw[nV] at h2;omega,fun j hj=>by rw[aO (by rw[nV];exact hj)];simp[im]⟩⟩ rfl ?_;clear hi h;rintro⟨i,o⟩ ⟨hi,hl,hI,hN,hF⟩;simp only at hi hl hI hN hF;simp only[go_sem];refine⟨fun h=>⟨h,h,fun h6=>?_,fun h6=>⟨h,h,?_⟩⟩,fun h=>?_⟩
 ·exact⟨(i+1,o),⟨h,hl,hI.gz (by omega),hN.mono (.inl (Nat.lt_succ_self _)),hF⟩,by show 400-(i+1)<400-i;omega,by rw[aH h (by simp only[maxLen];omega)]⟩
 ·obtain⟨y,hy⟩:=hI.at' h
  have hp6:=(bx.1 hy).2.1;rw[beq_eq_false_iff_ne] at h6;generalize hP:o.getD i Pth.zero=P at hy hp6 h6;have hP6:P.ed.length<6:=by omega
  have hend:=mJ s P hto h0;rw[hy] at hend;simp only[ic] at hend;refine af hend rfl (.inl rfl) ?_;simp only[go_sem]
  refine aJ [7,8] (fun(p:Nat×List Pth)=>[(3,.o (U Pth.d Pth.zero p.2)),(13,.int .i64 p.1)]) (fun p=>p.1<=s.fr.length/\o.length<=p.2.length/\p.2.length<=400/\eU s p.2 i/\iF p.2 i p.1/\sx s p.2/\p.2.getD i Pth.zero=P /\
   ∀e:Nat,e<p.1->s.aB P=some (s.fr.getD e 0)->(⟨P.st,P.ed++[(e:Int)]⟩:Pth)∈p.2) (fun p=>s.fr.length-p.1) (0,o) (by simp only[go_sem];rfl) ⟨Nat.zero_le _,Nat.le_refl _,hl,hI,hN,hF,hP,fun e he=>absurd he (Nat.not_lt_zero _)⟩ rfl ?_
  rintro⟨k,q⟩ ⟨hk,hq1,hq2,hqI,hqN,hqF,hqP,hqc⟩;simp only at hk hq1 hq2 hqI hqN hqF hqP hqc;simp only[go_sem];refine⟨fun h2=>⟨h2,fun h3=>?_,fun h3=>?_⟩,fun h2=>?_⟩
  ·rw[bne_iff_ne] at h3
   refine⟨(k+1,q),⟨h2,hq1,hq2,hqI,hqN.mono (.inr ⟨rfl,Nat.le_succ k⟩),hqF,hqP,fun e he hE=>?_⟩,by show s.fr.length-(k+1)<s.fr.length-k;omega,by rw[aH h2 (by simp only[maxLen];omega)]⟩;by_cases hek:e=k
   ·subst hek
    rw[hy] at hE;injection hE with hE
    exact absurd hE.symm h3
   ·exact hqc e (by simp only at he;omega) hE
  ·rw[bne_eq_false_iff_eq] at h3
   have hE:=nD (p:=P) (e:=k) (by rw[h3];exact hy) h2 hP6;have hadd:=hqI.add (by omega) hE;have hadN:=hqN.add (k:=k) (show i<q.length by omega);rw[hqP] at hadN;have hlen:(q++[(⟨P.st,P.ed++[(k:Int)]⟩:Pth)]).length=q.length+1:=by rw[List.length_append];rfl
   have hget:(q++[(⟨P.st,P.ed++[(k:Int)]⟩:Pth)]).getD i Pth.zero=P:=by rw[fV (by omega),if_neg (by omega),hqP]
   have hcc:∀e:Nat,e<k+1->s.aB P=some (s.fr.getD e 0)->(⟨P.st,P.ed++[(e:Int)]⟩:Pth)∈q++[(⟨P.st,P.ed++[(k:Int)]⟩:Pth)]:=fun e he hE=>by
    by_cases hek:e=k
    ·subst hek;simp
    ·exact List.mem_append_left _ (hqc e (by omega) hE)
   have hFF:sx s (q++[(⟨P.st,P.ed++[(k:Int)]⟩:Pth)]):=by
    refine⟨by rw[hlen];exact Nat.le_succ_of_le hqF.1,fun j h5 h6=>?_,fun j h5=>by have:=hqF.1;rw[fV (by omega),if_neg (by omega)];exact hqF.2.2 j h5⟩;rw[fV (by rw[hlen] at h6;omega)];split
    ·simp
    ·rw[hlen] at h6;exact hqF.2.1 j h5 (by omega)
   have hw:=aH h2 (show s.fr.length<=maxLen by simp only[maxLen];omega);refine⟨fun h7=>?_,fun h7=>?_⟩
   ·exact⟨_,_,⟨rfl,_,rfl,.inr ⟨_,rfl,E0 hadN.nd hadd.v (by rw[hlen];omega)⟩⟩,rfl,rfl,trivial⟩
   ·rw[hqP]
    rw[beq_eq_false_iff_ne] at h7
    with_reducible (repeat' apply And.intro)
    all_goals(try(show i<q.length;omega))
    all_goals(
     try rw[hqP]
     refine af (mL P.ed (by omega)) rfl (.inl (bJ _)) ?_;simp only[go_sem,hqP]
     with_reducible (repeat' apply And.intro)
     all_goals(first
      | exact⟨(k+1,_),⟨h2,by rw[hlen];omega,by rw[hlen];omega,hadd,hadN,hFF,hget,hcc⟩,by simp only;omega,by rw[hw]⟩
      | omega))
  ·exact⟨(i+1,q),⟨by show i+1<=q.length;omega,hq2,hqI.next fun e he hE=>by rw[hqP] at hE|-;exact hqc e (by omega) hE,hqN.mono (.inl (Nat.lt_succ_self _)),hqF⟩,by show 400-(i+1)<400-i;omega,by rw[aH h (by simp only[maxLen];omega)]⟩
 ·exact⟨_,_,⟨rfl,_,rfl,.inl ⟨o,rfl,hI.done (by omega),hN.nd,hl,hF⟩⟩,rfl,rfl,trivial⟩
end Go.D3
