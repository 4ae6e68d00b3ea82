/- CONTRACTS: a category's table is filled in: the program's side. -/
import Derived.Test.YtpnchponfnbmiaaGreatDoorGBH
namespace Go.D3
open Go
set_option maxHeartbeats 4000000
set_option maxRecDepth 100000
def fT(fr to:List Int)(cf:Nat->Nat->Int)(f n N:Nat):List Int:=(List.range N).map fun g=>if g<n then(if to.getD f 0=fr.getD g 0 then cf f g else -1) else 0
def eR(fr to:List Int)(cf:Nat->Nat->Int)(f N:Nat):List (List Int):=(List.range N).map fun i=>if i<f then fT fr to cf i N N else[]
theorem Hl{fr to:List Int}{cf:Nat->Nat->Int}{f n N:Nat}:(fT fr to cf f n N).length=N:=by simp[fT]
theorem zF{fr to:List Int}{cf:Nat->Nat->Int}{f N:Nat}:(eR fr to cf f N).length=N:=by simp[eR]
theorem T5{fr to:List Int}{cf:Nat->Nat->Int}{f N:Nat}:fT fr to cf f 0 N=List.replicate N 0:=by
 refine List.ext_getElem (by simp[fT]) fun i h1 h2=>?_
 simp[fT]
theorem Vp{fr to:List Int}{cf:Nat->Nat->Int}{N:Nat}:eR fr to cf 0 N=List.replicate N []:=by
 refine List.ext_getElem (by simp[eR]) fun i h1 h2=>?_
 simp[eR]
theorem Hm{fr to:List Int}{cf:Nat->Nat->Int}{f n N:Nat}{v:Int}(hv:v=if to.getD f 0=fr.getD n 0 then cf f n else -1):(fT fr to cf f n N).set n v=fT fr to cf f (n+1) N:=by
 refine List.ext_getElem (by simp[fT]) fun i h1 h2=>?_
 rw[List.getElem_set];simp only[fT,List.getElem_map,List.getElem_range];by_cases h:n=i
 ·subst h;rw[if_pos rfl,if_pos (by omega),hv]
 ·rw[if_neg h]
  by_cases h3:i<n
  ·rw[if_pos h3,if_pos (show i<n+1 by omega)]
  ·rw[if_neg h3,if_neg (show ¬i<n+1 by omega)]
theorem Vo{fr to:List Int}{cf:Nat->Nat->Int}{f N:Nat}:(eR fr to cf f N).set f (fT fr to cf f N N)=eR fr to cf (f+1) N:=by
 refine List.ext_getElem (by simp[eR]) fun i h1 h2=>?_
 rw[List.getElem_set];simp only[eR,List.getElem_map,List.getElem_range];by_cases h:f=i
 ·subst h;rw[if_pos rfl,if_pos (by omega)]
 ·rw[if_neg h]
  by_cases h3:i<f
  ·rw[if_pos h3,if_pos (by omega)]
  ·rw[if_neg h3,if_neg (by omega)]
theorem Uz{α:Type}{l:List α}{i:Nat}{x d:α}(h:i<l.length):(l.set i x).getD i d=x:=by rw[List.getD_eq_getElem?_getD,List.getElem?_set_self h];rfl
abbrev JN(S:D)(ob:Int)(fr to aN:List Int)(co:List (List Int))(ed:List Int)(Y:D)(k:List D)(B:List Int):List D :=
 [.box [.o (.ptr [S,.int .i64 ob,ints fr,ints to,ints aN,aW co,ints ed,Y])],.box k,.box [.o (ints B)]]
def zU:List Nat:=[0,1,4,5,6,18,19,37,38]
def Hx:Sl:=ae Go.Proofs.Tryz.types Go.Proofs.Tryz.f144 zU []
theorem Pr:aD Go.Proofs.Tryz.prog Go.Proofs.Tryz.f144 zU Hx 2=true:=by decide +kernel
theorem S8(S Sd Y Yd:D)(hS:S.strip=Sd)(hY:Y.strip=Yd)(ob:Int)(fr to aN:List Int)(ed B:List Int)(k:D)(hk:k.strip=k)(hkp:∃l,k=.ptr l)(fn:FuncId)(cf:Nat->Nat->Int)(hn:fr.length<=1048576)(hto:to.length=fr.length)(hb:eu Go.Proofs.Tryz.prog fn=true)
  (hc:∀co (f g:Nat),f<fr.length->g<fr.length->to.getD f 0=fr.getD g 0->al Go.Proofs.Tryz.prog fn [.v (.int .i64 f),.v (.int .i64 g),.v (.ptr [.ptr [Sd,.int .i64 ob,ints fr,ints to,ints aN,aW co,ints ed,Yd]]),.v (.ptr [k]),.v (.ptr [ints B])] (.int .i64 (cf f g))) :
  je Go.Proofs.Tryz.prog 144 [.az 0 [(0,0),(0,1)],.fn fn [.az 0 [(0,0)],.az 1 [(0,0)],.az 2 [(0,0)]]] (JN S ob fr to aN [] ed Y [k] B) (.o (.ah [])) (JN S ob fr to aN (eR fr to cf fr.length fr.length) ed Y [k] B):=by
 obtain⟨kl,rfl⟩:=hkp;refine Ge .tree Go.Proofs.Tryz.func144 Pr ?_;unfold Hx ae zU;simp only[go_sem];refine gY (bs:=[_]) (yJ ⟨ob,fr,to,aN,[]⟩) rfl ⟨.inr ⟨5,_,rfl,rfl⟩,trivial⟩ (.inl rfl) ?_;simp only[go_sem];refine⟨by omega,?_⟩;refine aJ [3,4,7,8] (fun(f:Nat)=>[(6,.int .i64 f),(9,.box [.o (.ptr [S,.int .i64 ob,ints fr,ints to,ints aN,aW (eR fr to cf f fr.length),ints ed,Y])])]) (fun f=>f<=fr.length) (fun f=>fr.length-f) 0 (by simp only[go_sem];rfl) (Nat.zero_le _) ?_ ?_
 ·simp only[go_sem,Vp];rfl
 intro f hf;simp only[go_sem,zF,List.length_replicate];refine⟨fun h1=>?_,fun h1=>?_⟩
 ·have htl:∀r,((eR fr to cf f fr.length).set f r).length=fr.length:=fun r=>by rw[List.length_set,zF]
  have hgr:∀r,((eR fr to cf f fr.length).set f r).getD f []=r:=fun r=>Uz (by rw[zF];exact h1)
  simp only[htl,hgr,List.length_replicate];refine⟨⟨Nat.le_refl _,by omega⟩,h1,h1,h1,?_⟩;refine aJ [4] (fun(g:Nat)=>[(8,.int .i64 g),(9,.box [.o (.ptr [S,.int .i64 ob,ints fr,ints to,ints aN,aW ((eR fr to cf f fr.length).set f (fT fr to cf f g fr.length)),ints ed,Y])])]) (fun g=>g<=fr.length) (fun g=>fr.length-g) 0 (by simp only[go_sem];rfl) (Nat.zero_le _) ?_ ?_
  ·simp only[go_sem,T5];rfl
  intro g hg;simp only[go_sem,htl,hgr,List.set_set,Hl,List.length_replicate];refine⟨fun h2=>?_,fun h2=>?_⟩
  ·have hkl:stripL kl=kl:=by injection hk
   have hwg:=aH h2 (show fr.length<=maxLen by simp only[maxLen];omega);refine⟨h1,h2,⟨h1,h2⟩,by omega,h2,fun he=>?_,fun he=>?_⟩
   ·have hcall:=hc ((eR fr to cf f fr.length).set f ((fT fr to cf f g fr.length).set g (-1))) f g h1 h2 he
    have aI:stripL [.int .i64 f,.int .i64 g,.ptr [.ptr [S,.int .i64 ob,ints fr,ints to,ints aN,aW ((eR fr to cf f fr.length).set f ((fT fr to cf f g fr.length).set g (-1))),ints ed,Y]],.ptr [.ptr kl],.ptr [ints B]] =
      [.int .i64 f,.int .i64 g,.ptr [.ptr [Sd,.int .i64 ob,ints fr,ints to,ints aN,aW ((eR fr to cf f fr.length).set f ((fT fr to cf f g fr.length).set g (-1))),ints ed,Yd]],.ptr [.ptr kl],.ptr [ints B]]:=by
     simp only[stripL,D.strip,dh,qn,hS,hY,hkl]
    have hse:=Hm (fr:=fr) (to:=to) (cf:=cf) (f:=f) (n:=g) (N:=fr.length) (v:=cf f g) (by rw[if_pos he])
    with_reducible (repeat' apply And.intro)
    all_goals(first
     | exact h1
     | (refine RB rfl aI hb hcall rfl ?_
        simp only[go_sem,htl,hgr,List.set_set,Hl,List.length_set]
        with_reducible (repeat' apply And.intro)
        all_goals(first | exact h1 | exact h2 | exact⟨g+1,h2,by omega,by rw[<-hse,hwg]⟩)))
   ·exact⟨g+1,h2,by omega,by rw[Hm (by rw[if_neg (beq_eq_false_iff_ne.1 he)]),hwg]⟩
  ·obtain rfl:g=fr.length:=by omega
   exact⟨f+1,h1,by omega,by rw[Vo,aH h1 (by simp only[maxLen];omega)]⟩
 ·obtain rfl:f=fr.length:=by omega
  exact⟨rfl,rfl⟩
end Go.D3
