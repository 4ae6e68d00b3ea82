/- CONTRACTS: free and constant set functors,the reference's side. -/
import Derived.Test.YtpjbamibcngihaaGreatDoorGBE
import Derived.Test.YtpjbamibcngihaaGreatDoorGBA
namespace Go.D3
open Go
set_option maxHeartbeats 4000000
set_option maxRecDepth 100000
def Bz(n:Int)(c:aA)(rc:D)(gs:List D):Prop:=gs=[]/\∃f:Sf,rc=.o f.d/\pM n c f
def w7:List Nat:=[0,1,4,2,5,6,7,8,9,10,11,12,13,14]
def Db:Sl:=ak Go.Proofs.Tryz.types Go.Proofs.Tryz.f89 w7 [(3,13)]
theorem L9:aI Go.Proofs.Tryz.prog Go.Proofs.Tryz.f89 w7 Db 2=true:=by decide +kernel
theorem Ct(c:aA)(ob:List Int)(hc:c.Shape)(hob:ob.length<=3):bR Go.Proofs.Tryz.prog 89 [c.d,ints ob] [] (Bz 120 c):=by
 have h8:=hc.pY;have h0:=hc.rS;have hfl:=hc.fr;have hto:=hc.to;have hco:=hc.co;refine eu .tree Go.Proofs.Tryz.func89 L9 ?_;unfold Db ak w7;simp only[go_sem];refine⟨⟨h0,Int.le_refl _,by omega⟩,?_⟩;refine aG [6] (fun(p:Nat×List (List (List Int)))=>[(5,.int .i64 p.1),(4,.o (gK p.2))]) (fun p=>p.1<=ob.length/\fG c ob p.1 0 p.2) (fun p=>ob.length-p.1) (0,List.replicate c.ob.toNat []) (by simp only[go_sem];rfl) ⟨Nat.zero_le _,fG.zero⟩ rfl ?_;rintro⟨k,L⟩ ⟨hk,hI⟩;simp only at hk hI;simp only[go_sem];refine⟨fun hk1=>?_,fun hk1=>?_⟩
 ·refine aG [] (fun(p:Nat×List (List (List Int)))=>[(6,.int .i64 p.1),(4,.o (gK p.2))]) (fun p=>p.1<=c.fr.length/\fG c ob k p.1 p.2) (fun p=>c.fr.length-p.1) (0,L) (by simp only[go_sem];rfl) ⟨Nat.zero_le _,hI⟩ rfl ?_
  rintro⟨h,L1⟩ ⟨hh,hI1⟩;simp only at hh hI1;have hLl:=hI1.len;simp only[go_sem];refine⟨fun h1=>?_,fun h1=>?_⟩
  ·have hF:=hc.mZ h1
   have hT:=hc.mP h1;obtain⟨t,ht⟩:∃t:Nat,c.to.getD h 0=t:=⟨(c.to.getD h 0).toNat,by omega⟩;have hidn:=hc.bz;have htl:t<L1.length:=by omega
   have hgl:=hI1.sz t;have hkm:k*c.fr.length<=2*40:=Nat.mul_le_mul (by omega) hfl
   have hgd:((List.map aK L1).set t D.dead).getD t (aK [])=.dead:=by
    rw[aS (by rw[List.length_set,List.length_map];exact htl),List.getElem_set_self]
   have hcl:(D.dead).cells.length=1:=rfl;have hw:=aN h1 (show c.fr.length<=maxLen by simp only[maxLen];omega);refine⟨h1,hk1,fun h2=>?_,fun h2=>⟨(h+1,L1),⟨h1,hI1.Wf (by simpa using h2)⟩,by simp only;omega,by rw[hw]⟩⟩;have hnx:=hI1.hit hk1 h1 h2 ht htl
   have aP:D.slice (aK []) ((List.map aK L1).set t (aK (L1.getD t []++[[(k:Int),(h:Int)]])))=gK (L1.set t (L1.getD t []++[[(k:Int),(h:Int)]])):=by
    simp only[gK,ae,List.map_set]
   simp only[ht,Int.toNat_natCast,hgd,dz,List.length_set,List.length_map,List.set_set,aP,hcl]
   repeat'(refine And.intro ?_ ?_)
   all_goals first | trivial | omega | exact⟨(h+1,_),⟨h1,hnx⟩,by simp only;omega,by rw[hw]⟩
  ·refine⟨(k+1,L1),⟨hk1,?_⟩,by simp only;omega,by rw[aN hk1 (by simp only[maxLen];omega)]⟩
   rw[show h=c.fr.length by omega] at hI1;exact hI1.next
 obtain rfl:k=ob.length:=by omega
 have hLl:=hI.len
 have hsz:∀y,(L.getD y []).length<=120:=fun y=>by
  have:=hI.sz y;have hkm:ob.length*c.fr.length<=3*40:=Nat.mul_le_mul hob hfl;omega
 refine ax (wY c hc.cost) rfl (.inl (Ar _)) ?_;simp only[go_sem];refine aG [] (fun(p:Nat×List Int)=>[(8,.int .i64 p.1),(7,.box [.int .i64 c.ob,.o (ints c.fr),.o (ints c.to),.o (ints c.bz),.o (aK c.co),.o (ints p.2),.o (aK [])])]) (fun p=>p.1<=L.length/\p.2.length=p.1/\∀y,y<p.1->p.2.getD y 0=((L.getD y []).length:Nat)) (fun p=>L.length-p.1) (0,[]) (by simp only[go_sem];rfl) ⟨Nat.zero_le _,rfl,fun y hy=>absurd hy (Nat.not_lt_zero _)⟩ rfl ?_;rintro⟨y,sz⟩ ⟨hy,hszl,hsg⟩;simp only at hy hszl hsg;simp only[go_sem];refine⟨fun h1=>⟨h1,by omega,(y+1,sz++[((L.getD y []).length:Int)]),⟨h1,by rw[List.length_append,hszl];rfl,fun y' hy'=>?_⟩,by simp only;omega,by rw[aN h1 (by simp only[maxLen];omega)]⟩,fun h1=>?_⟩
 ·rw[ek (by simp only at hy';omega)]
  split
  ·rename_i e;rw[e,hszl]
  ·exact hsg y' (by simp only at hy';omega)
 obtain rfl:y=L.length:=by omega
 refine aG [10,11,12,13] (fun(p:Nat×List (List Int))=>[(9,.int .i64 p.1),(7,.box [.int .i64 c.ob,.o (ints c.fr),.o (ints c.to),.o (ints c.bz),.o (aK c.co),.o (ints sz),.o (aK p.2)])])
  (fun p=>p.1<=c.fr.length/\p.2.length=p.1/\∀a,a<p.1->(p.2.getD a []).length=(L.getD (c.fr.getD a 0).toNat []).length/\∀i,i<(p.2.getD a []).length->0<=(p.2.getD a []).getD i 0/\(p.2.getD a []).getD i 0<(L.getD (c.to.getD a 0).toNat []).length) (fun p=>c.fr.length-p.1) (0,[]) (by simp only[go_sem];rfl) ⟨Nat.zero_le _,rfl,fun y hy=>absurd hy (Nat.not_lt_zero _)⟩ rfl ?_
 rintro⟨a,act⟩ ⟨ha,hal,hag⟩;simp only at ha hal hag;simp only[go_sem];have hidn:=hc.bz;refine⟨fun h2=>?_,fun h2=>?_⟩
 ·have hF:=hc.mZ h2
  have hT:=hc.mP h2;have aP:=fun e=>fG.step hc hI h2 (e:=e)
  have hwa:=aN h2 (show c.fr.length<=maxLen by simp only[maxLen];omega);obtain⟨x,hx⟩:∃x:Nat,c.fr.getD a 0=x:=⟨(c.fr.getD a 0).toNat,by omega⟩;obtain⟨t,ht⟩:∃t:Nat,c.to.getD a 0=t:=⟨(c.to.getD a 0).toNat,by omega⟩;refine⟨h2,⟨hF.1,by omega⟩,by omega,⟨hT.1,by omega⟩,?_⟩;rw[hx,ht] at aP|-
  simp only[Int.toNat_natCast] at aP|-
  have hLx:=hsz x;have hLt:=hsz t;refine aG [] (fun(p:Nat×List Int)=>[(13,.int .i64 p.1),(10,.o (ints p.2))]) (fun p=>p.1<=(L.getD x []).length/\p.2.length=p.1/\∀i,i<p.1->0<=p.2.getD i 0/\p.2.getD i 0<(L.getD t []).length) (fun p=>(L.getD x []).length-p.1) (0,[]) (by simp only[go_sem];rfl) ⟨Nat.zero_le _,rfl,fun y hy=>absurd hy (Nat.not_lt_zero _)⟩ rfl ?_;rintro⟨e,row⟩ ⟨he,hrl,hrg⟩;simp only at he hrl hrg;simp only[go_sem];refine⟨fun h3=>?_,fun h3=>?_⟩
  ·obtain⟨i,j,hij,hj,hp1,hp2⟩:=aP e h3
   rw[hij];simp only[List.getD_cons_zero,List.getD_cons_succ,List.length_cons,List.length_nil];have hr:=hc.row j hj;have hwe:=aN h3 (show(L.getD x []).length<=maxLen by simp only[maxLen];omega);refine⟨h3,by omega,h3,by omega,ax (LK c j a (by omega) (by omega) (by omega) (by rw[Int.toNat_natCast,hr];omega)) rfl (.inl rfl) ?_⟩;simp only[go_sem];refine ax (Le (L.getD t []) [(i:Int),c.dq j a] (by omega) (fun q hq=>?_)) rfl (.inl rfl) ?_
   ·obtain⟨_,_,h5,_⟩:=hI.el t _ (show(L.getD t []).getD q []∈L.getD t [] by rw[aS hq];exact List.getElem_mem _)
    rw[h5];simp
   simp only[go_sem];refine⟨by omega,(e+1,row++[nY (L.getD t []) [(i:Int),c.dq j a]]),⟨h3,by rw[List.length_append,hrl];rfl,fun q hq=>?_⟩,by simp only;omega,by rw[hwe]⟩;rw[ek (by simp only at hq;omega)];split
   ·exact⟨hp1,hp2⟩
   ·exact hrg q (by simp only at hq;omega)
  ·have he2:e=(L.getD x []).length:=by omega
   refine⟨by omega,(a+1,act++[row]),⟨h2,by rw[List.length_append,hal];rfl,fun a' ha'=>?_⟩,by simp only;omega,by rw[hwa]⟩;rw[ek (by simp only at ha';omega)];split
   ·rename_i e'
    rw[e',hal,hx,ht];exact⟨by rw[Int.toNat_natCast];omega,fun i hi=>by rw[Int.toNat_natCast];exact hrg i (by omega)⟩
   ·exact hag a' (by simp only at ha';omega)
 ·refine⟨_,_,⟨rfl,⟨c,sz,act⟩,rfl,⟨rfl,by show(sz.length:Int)=_;omega,fun x hx=>?_,by show act.length=_;omega,fun b hb=>?_,fun b i hb hi=>?_⟩⟩,rfl,rfl,trivial⟩
  ·have hx:x<sz.length:=hx
   show 0<=sz.getD x 0/\sz.getD x 0<=120;rw[hsg x (by omega)];have:=hsz x;omega
  ·have hF:=hc.mZ hb
   show((act.getD b []).length:Int)=sz.getD _ 0;rw[(hag b (by omega)).1,hsg _ (by omega)]
  ·have hT:=hc.mP hb
   show 0<=(act.getD b []).getD i 0/\(act.getD b []).getD i 0<sz.getD _ 0;rw[hsg _ (by omega)];exact(hag b (by omega)).2 i hi
def vU:List Nat:=[0,1,4,2,5,6,7,8,9]
def BZ:Sl:=ak Go.Proofs.Tryz.types Go.Proofs.Tryz.f124 vU []
theorem Kx:aI Go.Proofs.Tryz.prog Go.Proofs.Tryz.f124 vU BZ 2=true:=by decide +kernel
theorem Ko(c:aA)(hc:c.Shape)(n:Nat)(hn:n<=2):bR Go.Proofs.Tryz.prog 124 [c.d,.int .i64 n] [] (Bz 2 c):=by
 have h8:=hc.pY;have h0:=hc.rS;have hfl:=hc.fr;have hto:=hc.to;have hidn:=hc.bz;refine eu .tree Go.Proofs.Tryz.func124 Kx ?_;unfold BZ ak vU;simp only[go_sem];refine ax (wY c hc.cost) rfl (.inl (Ar _)) ?_;simp only[go_sem];refine aG [] (fun(x:Nat)=>[(5,.int .i64 x),(4,.box [.int .i64 c.ob,.o (ints c.fr),.o (ints c.to),.o (ints c.bz),.o (aK c.co),.o (ints (List.replicate x (n:Int))),.o (aK [])])]) (fun x=>(x:Int)<=c.ob) (fun x=>c.ob.toNat-x) 0 (by simp only[go_sem];rfl) h0 rfl ?_;intro x hx;simp only[go_sem];refine⟨fun h1=>⟨by simp only[List.length_replicate];omega,x+1,by omega,by omega,by rw[aN (n:=9) (by omega) (by decide),List.replicate_succ']⟩,fun h1=>?_⟩;obtain rfl:x=c.ob.toNat:=by omega
 refine aG [7,8] (fun(a:Nat)=>[(6,.int .i64 a),(4,.box [.int .i64 c.ob,.o (ints c.fr),.o (ints c.to),.o (ints c.bz),.o (aK c.co),.o (ints (List.replicate c.ob.toNat (n:Int))),.o (aK (List.replicate a (ch n)))])]) (fun a=>a<=c.fr.length) (fun a=>c.fr.length-a) 0 (by simp only[go_sem];rfl) (Nat.zero_le _) rfl ?_;intro a ha;simp only[go_sem];have hgr:∀{x},x<c.ob.toNat->(List.replicate c.ob.toNat (n:Int)).getD x 0=n:=fun hx=>by rw[List.getD_eq_getElem?_getD,List.getElem?_replicate,if_pos hx];rfl
 refine⟨fun h2=>?_,fun h2=>?_⟩
 ·refine aG [] (fun(e:Nat)=>[(8,.int .i64 e),(7,.o (ints (ch e)))]) (fun e=>e<=n) (fun e=>n-e) 0 (by simp only[go_sem];rfl) (Nat.zero_le _) rfl ?_
  intro e he;simp only[go_sem];refine⟨fun h3=>⟨by rw[iB];omega,e+1,by omega,by omega,by rw[aN (n:=9) (by omega) (by decide),E3]⟩,fun h3=>⟨by simp only[List.length_replicate];omega,a+1,by omega,by omega,?_⟩⟩;rw[aN h2 (by simp only[maxLen];omega),List.replicate_succ',show e=n by omega]
 ·obtain rfl:a=c.fr.length:=by omega
  have hga:∀{b},b<c.fr.length->(List.replicate c.fr.length (ch n)).getD b []=ch n:=fun hx=>by rw[List.getD_eq_getElem?_getD,List.getElem?_replicate,if_pos hx];rfl
  refine⟨_,_,⟨rfl,⟨c,List.replicate c.ob.toNat (n:Int),List.replicate c.fr.length (ch n)⟩,rfl,⟨rfl,by simp only[List.length_replicate];omega,fun x hx=>?_,by simp only[List.length_replicate],fun b hb=>?_,fun b i hb hi=>?_⟩⟩,rfl,rfl,trivial⟩
  ·simp only[List.length_replicate] at hx
   simp only[hgr hx];omega
  ·have hF:=hc.mZ hb
   simp only[hga hb,iB];rw[hgr (by omega)]
  ·have hT:=hc.mP hb
   simp only[hga hb] at hi|-
   rw[iB] at hi;rw[hgr (by omega)];unfold ch;rw[List.getD_eq_getElem?_getD,List.getElem?_map,List.getElem?_range hi];exact⟨by show(0:Int)<=(i:Int);omega,by show(i:Int)<n;omega⟩
end Go.D3
