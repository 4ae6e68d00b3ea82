/- CONTRACTS: free and constant set functors, the reference's side. -/
import Derived.Test.YtpjbamibcngihaaGreatDoorGBI
import Derived.Test.YtpjbamibcngihaaGreatDoorGBE
namespace Go.D3
open Go
set_option maxHeartbeats 4000000
set_option maxRecDepth 100000
def vU(n:Int)(c:aA)(rc:D)(gs:List D):Prop:=gs=[]/\∃f:Sf,rc=.o f.d/\oQ n c f
def BN:List Nat:=[0,1,4,2,5,6,7,8,9,10,11,12,13,14]
def JL:Sl:=ak Go.Proofs.Tryz.types Go.Proofs.Tryz.f89 BN [(3,13)]
theorem RX:aF Go.Proofs.Tryz.prog Go.Proofs.Tryz.f89 BN JL 2=true:=by decide +kernel
theorem HW(c:aA)(ob:List Int)(hc:c.Shape)(hob:ob.length<=3):bM Go.Proofs.Tryz.prog 89 [c.d,ints ob] [] (vU 120 c):=by
 have h8:=hc.pN;have h0:=hc.rl;have hfl:=hc.fr;have hto:=hc.to;have hco:=hc.co;refine dN .tree Go.Proofs.Tryz.func89 RX ?_;unfold JL ak BN;simp only[go_sem];refine⟨⟨h0,Int.le_refl _,by omega⟩,?_⟩;refine aE [6] (fun(p:Nat×List (List (List Int)))=>[(5,.int .i64 p.1),(4,.o (gX p.2))]) (fun p=>p.1<=ob.length/\fH c ob p.1 0 p.2) (fun p=>ob.length-p.1) (0,List.replicate c.ob.toNat []) (by simp only[go_sem];rfl) ⟨Nat.zero_le _,fH.zero⟩ rfl ?_;rintro⟨k,L⟩ ⟨hk,hI⟩;simp only at hk hI;simp only[go_sem];refine⟨fun hk1=>?_,fun hk1=>?_⟩
 ·refine aE [] (fun(p:Nat×List (List (List Int)))=>[(6,.int .i64 p.1),(4,.o (gX p.2))]) (fun p=>p.1<=c.fr.length/\fH c ob k p.1 p.2) (fun p=>c.fr.length-p.1) (0,L) (by simp only[go_sem];rfl) ⟨Nat.zero_le _,hI⟩ rfl ?_
  rintro⟨h,L1⟩ ⟨hh,hI1⟩;simp only at hh hI1;have hLl:=hI1.len;simp only[go_sem];refine⟨fun h1=>?_,fun h1=>?_⟩
  ·have hF:=hc.l7 h1
   have hT:=hc.ni h1;obtain⟨t,ht⟩:∃t:Nat,c.to.getD h 0=t:=⟨(c.to.getD h 0).toNat,by omega⟩;have hidn:=hc.bC;have htl:t<L1.length:=by omega
   have hgl:=hI1.sz t;have hkm:k*c.fr.length<=2*40:=Nat.mul_le_mul (by omega) hfl
   have hgd:((List.map aI L1).set t D.dead).getD t (aI [])=.dead:=by
    rw[aS (by rw[List.length_set,List.length_map];exact htl),List.getElem_set_self]
   have hcl:(D.dead).cells.length=1:=rfl;have hw:=aM h1 (show c.fr.length<=maxLen by simp only[maxLen];omega);refine⟨h1,hk1,fun h2=>?_,fun h2=>⟨(h+1,L1),⟨h1,hI1.Pm (by simpa using h2)⟩,by simp only;omega,by rw[hw]⟩⟩;have hnx:=hI1.hit hk1 h1 h2 ht htl
   have aO:D.slice (aI []) ((List.map aI L1).set t (aI (L1.getD t []++[[(k:Int),(h:Int)]])))=gX (L1.set t (L1.getD t []++[[(k:Int),(h:Int)]])):=by
    simp only[gX,ae,List.map_set]
   simp only[ht,Int.toNat_natCast,hgd,dJ,List.length_set,List.length_map,List.set_set,aO,hcl]
   repeat'(refine And.intro ?_ ?_)
   all_goals first | trivial | omega | exact⟨(h+1,_),⟨h1,hnx⟩,by simp only;omega,by rw[hw]⟩
  ·refine⟨(k+1,L1),⟨hk1,?_⟩,by simp only;omega,by rw[aM hk1 (by simp only[maxLen];omega)]⟩
   rw[show h=c.fr.length by omega] at hI1;exact hI1.next
 obtain rfl:k=ob.length:=by omega
 have hLl:=hI.len
 have hsz:∀y,(L.getD y []).length<=120:=fun y=>by
  have:=hI.sz y;have hkm:ob.length*c.fr.length<=3*40:=Nat.mul_le_mul hob hfl;omega
 refine av (zu c hc.cost) rfl (.inl (ye _)) ?_;simp only[go_sem];refine aE [] (fun(p:Nat×List Int)=>[(8,.int .i64 p.1),(7,.box [.int .i64 c.ob,.o (ints c.fr),.o (ints c.to),.o (ints c.bC),.o (aI c.co),.o (ints p.2),.o (aI [])])]) (fun p=>p.1<=L.length/\p.2.length=p.1/\∀y,y<p.1->p.2.getD y 0=((L.getD y []).length:Nat)) (fun p=>L.length-p.1) (0,[]) (by simp only[go_sem];rfl) ⟨Nat.zero_le _,rfl,fun y hy=>absurd hy (Nat.not_lt_zero _)⟩ rfl ?_;rintro⟨y,sz⟩ ⟨hy,hszl,hsg⟩;simp only at hy hszl hsg;simp only[go_sem];refine⟨fun h1=>⟨h1,by omega,(y+1,sz++[((L.getD y []).length:Int)]),⟨h1,by rw[List.length_append,hszl];rfl,fun y' hy'=>?_⟩,by simp only;omega,by rw[aM h1 (by simp only[maxLen];omega)]⟩,fun h1=>?_⟩
 ·rw[eG (by simp only at hy';omega)]
  split
  ·rename_i e;rw[e,hszl]
  ·exact hsg y' (by simp only at hy';omega)
 obtain rfl:y=L.length:=by omega
 refine aE [10,11,12,13] (fun(p:Nat×List (List Int))=>[(9,.int .i64 p.1),(7,.box [.int .i64 c.ob,.o (ints c.fr),.o (ints c.to),.o (ints c.bC),.o (aI c.co),.o (ints sz),.o (aI p.2)])])
  (fun p=>p.1<=c.fr.length/\p.2.length=p.1/\∀a,a<p.1->(p.2.getD a []).length=(L.getD (c.fr.getD a 0).toNat []).length/\∀i,i<(p.2.getD a []).length->0<=(p.2.getD a []).getD i 0/\(p.2.getD a []).getD i 0<(L.getD (c.to.getD a 0).toNat []).length) (fun p=>c.fr.length-p.1) (0,[]) (by simp only[go_sem];rfl) ⟨Nat.zero_le _,rfl,fun y hy=>absurd hy (Nat.not_lt_zero _)⟩ rfl ?_
 rintro⟨a,act⟩ ⟨ha,hal,hag⟩;simp only at ha hal hag;simp only[go_sem];have hidn:=hc.bC;refine⟨fun h2=>?_,fun h2=>?_⟩
 ·have hF:=hc.l7 h2
  have hT:=hc.ni h2;have aO:=fun e=>fH.step hc hI h2 (e:=e)
  have hwa:=aM h2 (show c.fr.length<=maxLen by simp only[maxLen];omega);obtain⟨x,hx⟩:∃x:Nat,c.fr.getD a 0=x:=⟨(c.fr.getD a 0).toNat,by omega⟩;obtain⟨t,ht⟩:∃t:Nat,c.to.getD a 0=t:=⟨(c.to.getD a 0).toNat,by omega⟩;refine⟨h2,⟨hF.1,by omega⟩,by omega,⟨hT.1,by omega⟩,?_⟩;rw[hx,ht] at aO|-
  simp only[Int.toNat_natCast] at aO|-
  have hLx:=hsz x;have hLt:=hsz t;refine aE [] (fun(p:Nat×List Int)=>[(13,.int .i64 p.1),(10,.o (ints p.2))]) (fun p=>p.1<=(L.getD x []).length/\p.2.length=p.1/\∀i,i<p.1->0<=p.2.getD i 0/\p.2.getD i 0<(L.getD t []).length) (fun p=>(L.getD x []).length-p.1) (0,[]) (by simp only[go_sem];rfl) ⟨Nat.zero_le _,rfl,fun y hy=>absurd hy (Nat.not_lt_zero _)⟩ rfl ?_;rintro⟨e,row⟩ ⟨he,hrl,hrg⟩;simp only at he hrl hrg;simp only[go_sem];refine⟨fun h3=>?_,fun h3=>?_⟩
  ·obtain⟨i,j,hij,hj,hp1,hp2⟩:=aO e h3
   rw[hij];simp only[List.getD_cons_zero,List.getD_cons_succ,List.length_cons,List.length_nil];have hr:=hc.row j hj;have hwe:=aM h3 (show(L.getD x []).length<=maxLen by simp only[maxLen];omega);refine⟨h3,by omega,h3,by omega,av (U0 c j a (by omega) (by omega) (by omega) (by rw[Int.toNat_natCast,hr];omega)) rfl (.inl rfl) ?_⟩;simp only[go_sem];refine av (U3 (L.getD t []) [(i:Int),c.dx j a] (by omega) (fun q hq=>?_)) rfl (.inl rfl) ?_
   ·obtain⟨_,_,h5,_⟩:=hI.el t _ (show(L.getD t []).getD q []∈L.getD t [] by rw[aS hq];exact List.getElem_mem _)
    rw[h5];simp
   simp only[go_sem];refine⟨by omega,(e+1,row++[ot (L.getD t []) [(i:Int),c.dx j a]]),⟨h3,by rw[List.length_append,hrl];rfl,fun q hq=>?_⟩,by simp only;omega,by rw[hwe]⟩;rw[eG (by simp only at hq;omega)];split
   ·exact⟨hp1,hp2⟩
   ·exact hrg q (by simp only at hq;omega)
  ·have he2:e=(L.getD x []).length:=by omega
   refine⟨by omega,(a+1,act++[row]),⟨h2,by rw[List.length_append,hal];rfl,fun a' ha'=>?_⟩,by simp only;omega,by rw[hwa]⟩;rw[eG (by simp only at ha';omega)];split
   ·rename_i e'
    rw[e',hal,hx,ht];exact⟨by rw[Int.toNat_natCast];omega,fun i hi=>by rw[Int.toNat_natCast];exact hrg i (by omega)⟩
   ·exact hag a' (by simp only at ha';omega)
 ·refine⟨_,_,⟨rfl,⟨c,sz,act⟩,rfl,⟨rfl,by show(sz.length:Int)=_;omega,fun x hx=>?_,by show act.length=_;omega,fun b hb=>?_,fun b i hb hi=>?_⟩⟩,rfl,rfl,trivial⟩
  ·have hx:x<sz.length:=hx
   show 0<=sz.getD x 0/\sz.getD x 0<=120;rw[hsg x (by omega)];have:=hsz x;omega
  ·have hF:=hc.l7 hb
   show((act.getD b []).length:Int)=sz.getD _ 0;rw[(hag b (by omega)).1,hsg _ (by omega)]
  ·have hT:=hc.ni hb
   show 0<=(act.getD b []).getD i 0/\(act.getD b []).getD i 0<sz.getD _ 0;rw[hsg _ (by omega)];exact(hag b (by omega)).2 i hi
def BM:List Nat:=[0,1,4,2,5,6,7,8,9]
def JK:Sl:=ak Go.Proofs.Tryz.types Go.Proofs.Tryz.f124 BM []
theorem RW:aF Go.Proofs.Tryz.prog Go.Proofs.Tryz.f124 BM JK 2=true:=by decide +kernel
theorem U4(c:aA)(hc:c.Shape)(n:Nat)(hn:n<=2):bM Go.Proofs.Tryz.prog 124 [c.d,.int .i64 n] [] (vU 2 c):=by
 have h8:=hc.pN;have h0:=hc.rl;have hfl:=hc.fr;have hto:=hc.to;have hidn:=hc.bC;refine dN .tree Go.Proofs.Tryz.func124 RW ?_;unfold JK ak BM;simp only[go_sem];refine av (zu c hc.cost) rfl (.inl (ye _)) ?_;simp only[go_sem];refine aE [] (fun(x:Nat)=>[(5,.int .i64 x),(4,.box [.int .i64 c.ob,.o (ints c.fr),.o (ints c.to),.o (ints c.bC),.o (aI c.co),.o (ints (List.replicate x (n:Int))),.o (aI [])])]) (fun x=>(x:Int)<=c.ob) (fun x=>c.ob.toNat-x) 0 (by simp only[go_sem];rfl) h0 rfl ?_;intro x hx;simp only[go_sem];refine⟨fun h1=>⟨by simp only[List.length_replicate];omega,x+1,by omega,by omega,by rw[aM (n:=9) (by omega) (by decide),List.replicate_succ']⟩,fun h1=>?_⟩;obtain rfl:x=c.ob.toNat:=by omega
 refine aE [7,8] (fun(a:Nat)=>[(6,.int .i64 a),(4,.box [.int .i64 c.ob,.o (ints c.fr),.o (ints c.to),.o (ints c.bC),.o (aI c.co),.o (ints (List.replicate c.ob.toNat (n:Int))),.o (aI (List.replicate a (cC n)))])]) (fun a=>a<=c.fr.length) (fun a=>c.fr.length-a) 0 (by simp only[go_sem];rfl) (Nat.zero_le _) rfl ?_;intro a ha;simp only[go_sem];have hgr:∀{x},x<c.ob.toNat->(List.replicate c.ob.toNat (n:Int)).getD x 0=n:=fun hx=>by rw[List.getD_eq_getElem?_getD,List.getElem?_replicate,if_pos hx];rfl
 refine⟨fun h2=>?_,fun h2=>?_⟩
 ·refine aE [] (fun(e:Nat)=>[(8,.int .i64 e),(7,.o (ints (cC e)))]) (fun e=>e<=n) (fun e=>n-e) 0 (by simp only[go_sem];rfl) (Nat.zero_le _) rfl ?_
  intro e he;simp only[go_sem];refine⟨fun h3=>⟨by rw[iV];omega,e+1,by omega,by omega,by rw[aM (n:=9) (by omega) (by decide),F5]⟩,fun h3=>⟨by simp only[List.length_replicate];omega,a+1,by omega,by omega,?_⟩⟩;rw[aM h2 (by simp only[maxLen];omega),List.replicate_succ',show e=n by omega]
 ·obtain rfl:a=c.fr.length:=by omega
  have hga:∀{b},b<c.fr.length->(List.replicate c.fr.length (cC n)).getD b []=cC n:=fun hx=>by rw[List.getD_eq_getElem?_getD,List.getElem?_replicate,if_pos hx];rfl
  refine⟨_,_,⟨rfl,⟨c,List.replicate c.ob.toNat (n:Int),List.replicate c.fr.length (cC n)⟩,rfl,⟨rfl,by simp only[List.length_replicate];omega,fun x hx=>?_,by simp only[List.length_replicate],fun b hb=>?_,fun b i hb hi=>?_⟩⟩,rfl,rfl,trivial⟩
  ·simp only[List.length_replicate] at hx
   simp only[hgr hx];omega
  ·have hF:=hc.l7 hb
   simp only[hga hb,iV];rw[hgr (by omega)]
  ·have hT:=hc.ni hb
   simp only[hga hb] at hi|-
   rw[iV] at hi;rw[hgr (by omega)];unfold cC;rw[List.getD_eq_getElem?_getD,List.getElem?_map,List.getElem?_range hi];exact⟨by show(0:Int)<=(i:Int);omega,by show(i:Int)<n;omega⟩
end Go.D3
