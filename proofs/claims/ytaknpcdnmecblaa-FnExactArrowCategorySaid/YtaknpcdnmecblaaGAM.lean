/- CONTRACTS: the arrow category: the program's small functions. -/
import Derived.Test.YtaknpcdnmecblaaGAH
import Derived.Test.YtaknpcdnmecblaaGAL
import Derived.Test.YtaknpcdnmecblaaGAI
namespace Go.D3
open Go Proofs
set_option maxHeartbeats 4000000
set_option maxRecDepth 100000
theorem GU{n i:Nat}(h:i<n):cQ (bN n) 0 (i+1)=(cQ (bN n) 0 i).set i (i:Int):=by
 have:=rm (d:=0) (z:=0) (l:=bN n) (i:=i) (by rw[dS];exact h);rw[jg h] at this;exact this.symm
def yf:List Nat:=[0,2,3,4,8,9]
def D1:Sl:=al Try.types Try.f35 yf []
theorem Km:aX Try.prog Try.f35 yf D1 1=true:=by decide +kernel
theorem Dt(n:Nat)(h1:n<=1048576):aD Try.prog 35 [.v (.int .i64 n)] (ints (bN n)):=by
 have hm:(bN n).length<=maxLen:=by rw[dS];simp only[maxLen];omega
 refine a7 Try.func35 Km ?_;unfold D1 al yf;simp only[go_sem];refine⟨⟨Nat.le_refl _,by omega⟩,?_⟩;refine ba [3] (fun(i:Nat)=>[(2,.o (ints (cQ (bN n) 0 i))),(5,.int .i64 i)]) (fun i=>i<=n) (fun i=>n-i) 0 (by simp only[go_sem];rfl) (Nat.zero_le _) ?_ ?_
 ·simp only[go_sem,rn,dS];rfl
 rintro i hi;simp only[go_sem];refine⟨fun h=>?_,fun h=>?_⟩
 ·have hi':i<n:=by simp only[List.length_replicate] at h;omega
  refine⟨by rw[l9 (by rw[dS];omega),dS];exact hi',by rw[l9 (by rw[dS];omega),dS];exact hi',i+1,by omega,by omega,?_⟩;rw[GU hi',aU (n:=n) hi' (by simp only[maxLen];omega)]
 ·rw[rl (by rw[dS];simp only[List.length_replicate] at h;omega)]
def yc:List Nat:=[0,2]
def DY:Sl:=al Try.types Try.f19 yc []
theorem Kj:aX Try.prog Try.f19 yc DY 1=true:=by decide +kernel
theorem M0(c:Cat)(hc:c.Shape):aD Try.prog 19 [.v (.ptr c.cells)] (aL c).d:=by
 have h1:=hc.fr;have h2:=hc.iq;have h3:=hc.jU;have hcost:=An hc;refine a7 Try.func19 Kj ?_;unfold DY al yc;simp only[go_sem];have e:c.ob=(c.ob.toNat:Int):=by omega
 have hn:=Dt c.ob.toNat (by omega);rw[<-e] at hn;refine aC hn rfl (.inl (ch _)) ?_;simp only[go_sem];refine aC (sY c) rfl (.inl rfl) ?_;simp only[go_sem];refine aC (Dt c.fr.length (by omega)) rfl (.inl (ch _)) ?_;simp only[go_sem];refine aC (MZ c c (bN c.ob.toNat) (bN c.fr.length) hcost hcost (by rw[dS];omega) (by rw[dS];omega)) rfl (.inl (pZ _)) ?_;simp only[go_sem];rfl
def x8:List Nat:=[0,1,4,5,6,7,8,9,11,16,17,18,26,27,28,38,39,40]
def DU:Sl:=al Try.types Try.f37 x8 []
theorem Kf:aX Try.prog Try.f37 x8 DU 2=true:=by decide +kernel
theorem MW(c:Cat)(hc:c.Shape):aD Try.prog 37 [.v (.ptr (aL c).cells),.v (.ptr (aL c).cells)] (aB (ah c)):=by
 have hfr:=hc.fr;have hob0:=hc.iq;have hob8:=hc.jU;have hln:(bN c.ob.toNat).length=c.ob.toNat:=dS;simp only[aL];refine a7 Try.func37 Kf ?_;unfold DU al x8;simp only[go_sem];refine ba [4,5,6,7,8,12,13,14,15,16,17] (fun a:Nat=>[(11,.int .i64 a),(3,.o (aB (ir c a)))]) (fun a=>a<=c.ob.toNat) (fun a=>c.ob.toNat-a) 0 (by simp only[go_sem];rfl) (Nat.zero_le _) rfl ?_;intro a ha;simp only[go_sem,hln];refine⟨fun h=>?_,fun h=>?_⟩
 ·have hga:=jg (n:=c.ob.toNat) (i:=a) (by omega)
  simp only[hga];refine⟨by omega,?_⟩;refine ba [6,7,8,15,16,17] (fun b:Nat=>[(14,.int .i64 b),(3,.o (aB (ir c a++gM c a b)))]) (fun b=>b<=c.ob.toNat) (fun b=>c.ob.toNat-b) 0 (by simp only[go_sem];rfl) (Nat.zero_le _) ?_ ?_
  ·simp[gM,go_sem]
  intro b hb;simp only[go_sem,hln];refine⟨fun h1=>?_,fun h1=>?_⟩
  ·have hgb:=jg (n:=c.ob.toNat) (i:=b) (by omega)
   simp only[hgb];refine⟨h1,l8 (bs:=[_,_,_]) (wU c a b (by omega) hc.to) rfl ⟨.inr ⟨5,_,rfl,rfl⟩,.inl rfl,.inl rfl,trivial⟩ (.inl (ch _)) ?_⟩;simp only[go_sem];refine ba [8] (fun i:Nat=>[(17,.int .i64 i),(3,.o (aB (ir c a++gM c a b++(eN c a b).take i)))]) (fun i=>i<=(c.aH a b).length) (fun i=>(c.aH a b).length-i) 0 (by simp only[go_sem];rfl) (Nat.zero_le _) ?_ ?_
   ·simp[go_sem]
   intro i hi;have h40:=@jG c a b hfr;have hl1:=@vL c a hfr (by omega) hob8;have hl2:=@vK c a b hfr (by omega);have hl3:((eN c a b).take i).length<=i:=List.length_take_le _ _;simp only[go_sem,zq];refine⟨fun h2=>⟨h2,by simp only[List.length_append] at *;omega,i+1,by omega,by omega,?_⟩,fun h2=>?_⟩
   ·rw[aU h2 (by simp only[maxLen];omega)]
    have:(eN c a b).take (i+1)=(eN c a b).take i++[[(a:Int),(b:Int),(c.aH a b).getD i 0]]:=by
     rw[List.take_add_one];unfold eN;rw[List.getElem?_map,List.getElem?_eq_getElem h2,bT h2];rfl
    rw[this,<-List.append_assoc]
   ·refine⟨b+1,by omega,by omega,?_⟩
    rw[aU (n:=9) (by omega) (by simp only[maxLen];omega),Cg,List.take_of_length_le (by unfold eN;rw[List.length_map];omega),List.append_assoc]
  ·obtain rfl:b=c.ob.toNat:=by omega
   refine⟨a+1,by omega,by omega,?_⟩;rw[aU (n:=9) (by omega) (by simp only[maxLen];omega),Ch]
 ·obtain rfl:a=c.ob.toNat:=by omega
  rfl
end Go.D3
