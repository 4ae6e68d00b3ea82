/- CONTRACTS: the comma category of identities: built, the reference's side. -/
import Derived.Test.YtaknpcdnmecblaaGAD
import Derived.Test.YtaknpcdnmecblaaGAG
namespace Go.D3
open Go Proofs
set_option maxHeartbeats 4000000
set_option maxRecDepth 100000
theorem uC{α:Type}{f:α->Nat}{m:Nat}:∀{l:List α},(∀x∈l,f x<=m)->dk f l<=l.length*(m+1)
 | [],_=>by simp[dk]
 | a::l,h=>by
  have h1:=h a List.mem_cons_self;have h2:=uC (f:=f) (m:=m) fun x hx=>h x (List.mem_cons_of_mem a hx)
  simp only[dk,List.length_cons,Nat.succ_mul,List.map_cons,List.sum_cons] at *;omega
theorem An{c:Cat}(hc:c.Shape):Cat.cost c<=1048576:=by
 have h1:=hc.fr;have h2:=hc.to;have h3:=hc.toPre.rL;have h4:=hc.co
 have h5:dk List.length c.co<=c.co.length*41:=uC fun x hx=>by
  obtain⟨i,hi,rfl⟩:=List.getElem_of_mem hx;have:=hc.row i (by omega);rw[bT hi] at this;omega
 unfold Cat.cost;omega
def bN(n:Nat):List Int:=(List.range n).map fun i:Nat=>(i:Int)
theorem dS{n:Nat}:(bN n).length=n:=by simp[bN]
theorem jg{n i:Nat}(h:i<n):(bN n).getD i 0=i:=by
 unfold bN;rw[List.getD_eq_getElem?_getD,List.getElem?_map,List.getElem?_range h];rfl
theorem lb{n:Nat}{x:Int}(h0 : 0<=x)(h:x<n):(bN n).getD x.toNat 0=x:=by rw[jg (by omega)];omega
theorem B6{n:Nat}:bN (n+1)=bN n++[(n:Int)]:=by simp[bN,List.range_succ]
def aL(c:Cat):bP:=⟨c,c,bN c.ob.toNat,bN c.fr.length⟩
theorem B5{n:Nat}:fj n (bN n)=true:=by
 rw[BN];intro y hy;obtain⟨i,hi,rfl⟩:=List.mem_map.1 hy;have:=List.mem_range.1 hi;omega
def yH:List Nat:=[0,1,4,5]
def Eu:Sl:=al Try.types Try.f62 yH []
theorem KO:aX Try.prog Try.f62 yH Eu 2=true:=by decide +kernel
theorem Ng(a:List (List Int))(hl:a.length<=1048576)(hx:∀i,i<a.length->(a.getD i []).length<=1048576):aD Try.prog 62 [.v (aB a),.v (aB a)] (.bool true):=by
 refine a7 Try.func62 KO ?_;unfold Eu al yH;simp only[go_sem];refine⟨fun h=>by simp at h,fun _=>?_⟩;refine ba [] (fun i:Nat=>[(3,.int .i64 i)]) (fun i=>i<=a.length) (fun i=>a.length-i) 0 (by simp only[go_sem];rfl) (Nat.zero_le _) rfl ?_;intro i hi;simp only[go_sem];refine fun h1=>⟨h1,h1,aC (qw _ _ (hx i h1)) rfl (.inl rfl) ?_⟩
 simp only[go_sem];refine⟨fun h=>by simp at h,fun _=>⟨i+1,by omega,by omega,by rw[aU h1 (by simp only[maxLen];omega)]⟩⟩
def yK:List Nat:=[0,2,1]
def Ey:Sl:=al Try.types Try.f50 yK []
theorem KR:aX Try.prog Try.f50 yK Ey 1=true:=by decide +kernel
theorem Dy(c:Cat):aD Try.prog 50 [.v c.d] (.bool (decide (c.ob<=8)&&decide ((c.fr.length:Int)<=40))):=by
 refine a7 Try.func50 KR ?_;unfold Ey al yK;simp only[go_sem]
theorem Gx{c:Cat}(hc:c.Shape)(i:Nat)(h:i<c.co.length):(c.co.getD i []).length<=1048576:=by
 have:=hc.row i (by rw[<-hc.co];exact h);have:=hc.fr;omega
def yO:List Nat:=[0,1,4,2,3]
def EC:Sl:=al Try.types Try.f47 yO []
theorem KV:aX Try.prog Try.f47 yO EC 2=true:=by decide +kernel
theorem Nh(c:Cat)(hc:c.Shape):aD Try.prog 47 [.v c.d,.v c.d] (.bool true):=by
 have h1:=hc.fr;have h2:=hc.to;have h3:=hc.toPre.rL;have h4:=hc.co;refine a7 Try.func47 KV ?_;unfold EC al yO;simp only[go_sem];refine dx (fun _=>qw _ _ (by omega)) rfl (fun h=>h) (.inl rfl) ?_;simp only[go_sem];refine dx (fun _=>qw _ _ (by omega)) rfl (fun h=>h) (.inl rfl) ?_;simp only[go_sem];refine dx (fun _=>qw _ _ (by omega)) rfl (fun h=>h) (.inl rfl) ?_;simp only[go_sem];refine dx (fun _=>Ng _ (by omega) (Gx hc)) rfl (fun h=>h) (.inl rfl) ?_;simp only[go_sem];simp
def yS:List Nat:=[0,2,1,3,4,5,6]
def EG:Sl:=al Try.types Try.f15 yS []
theorem KZ:aX Try.prog Try.f15 yS EG 1=true:=by decide +kernel
theorem DA(c:Cat)(hc:c.Shape)(hs:Cat.cost c<=1048576):aD Try.prog 15 [.v c.d] (aL c).d:=by
 have h1:=hc.fr;have h2:=hc.iq;have h3:=hc.jU;refine a7 Try.func15 KZ ?_;unfold EG al yS;simp only[go_sem];refine ba [] (fun i:Nat=>[(5,.int .i64 i),(3,.o (ints (bN i)))]) (fun i=>i<=c.ob.toNat) (fun i=>c.ob.toNat-i) 0 (by simp only[go_sem];rfl) (Nat.zero_le _) rfl ?_;intro i hi;have hli:=dS (n:=i);simp only[go_sem];refine⟨fun h=>⟨by omega,i+1,by omega,by omega,by rw[aU (n:=9) (by omega) (by simp only[maxLen];omega),B6]⟩,fun h=>?_⟩;obtain rfl:i=c.ob.toNat:=by omega
 refine ba [] (fun i:Nat=>[(6,.int .i64 i),(4,.o (ints (bN i)))]) (fun i=>i<=c.fr.length) (fun i=>c.fr.length-i) 0 (by simp only[go_sem];rfl) (Nat.zero_le _) rfl ?_;intro i hi;have hli:=dS (n:=i);simp only[go_sem];refine⟨fun h=>⟨by omega,i+1,by omega,by omega,by rw[aU h (by simp only[maxLen];omega),B6]⟩,fun h=>?_⟩;obtain rfl:i=c.fr.length:=by omega
 refine aC (Nq c c (bN c.ob.toNat) (bN c.fr.length) hs hs (by rw[dS];omega) (by rw[dS];omega)) rfl (.inl (pZ _)) ?_;simp only[go_sem];rfl
def yX:List Nat:=[0,1,4,5,6]
def EL:Sl:=al Try.types Try.f66 yX []
theorem K5:aX Try.prog Try.f66 yX EL 2=true:=by decide +kernel
theorem DB(l:List (List Int))(k:Nat)(hl:l.length<=1048576)(hk:∀i,i<l.length->k<(l.getD i []).length):aD Try.prog 66 [.v (aB l),.v (.int .i64 k)] (ints (l.map fun x=>x.getD k 0)):=by
 refine a7 Try.func66 K5 ?_;unfold EL al yX;simp only[go_sem];refine ba [] (fun i:Nat=>[(4,.int .i64 i),(3,.o (ints ((l.take i).map fun x=>x.getD k 0)))]) (fun i=>i<=l.length) (fun i=>l.length-i) 0 (by simp only[go_sem];rfl) (Nat.zero_le _) rfl ?_;intro i hi;have hln:((l.take i).map fun x=>x.getD k 0).length<=i:=by simp;omega
 simp only[go_sem];refine⟨fun h=>⟨h,hk i h,by simp only[List.length_map,List.length_take] at *;omega,i+1,by omega,by omega,?_⟩,fun h=>?_⟩
 ·rw[aU h (by simp only[maxLen];omega),List.take_add_one,List.map_append,List.getElem?_eq_getElem h,bT h]
  rfl
 ·rw[List.take_of_length_le (by omega)]
def yZ:List Nat:=[0,1,4,5]
def EN:Sl:=al Try.types Try.f70 yZ []
theorem K7:aX Try.prog Try.f70 yZ EN 2=true:=by decide +kernel
theorem DC(l:List (List Int))(x:List Int)(hl:l.length<=1048576)(hx:∀i,i<l.length->(l.getD i []).length<=1048576):aD Try.prog 70 [.v (aB l),.v (ints x)] (.int .i64 (dK l x)):=by
 refine a7 Try.func70 K7 ?_;unfold EN al yZ;simp only[go_sem];refine ba [] (fun i:Nat=>[(3,.int .i64 i)]) (fun i=>i<=l.findIdx (·== x)) (fun i=>l.length-i) 0 (by simp only[go_sem];rfl) (Nat.zero_le _) rfl ?_;intro i hi;have hfl:=List.findIdx_le_length (p:=(·== x)) (xs:=l);simp only[go_sem];refine⟨fun h1=>⟨h1,aC (qw _ x (hx i h1)) rfl (.inl rfl) ?_⟩,fun h1=>?_⟩
 ·simp only[go_sem]
  refine⟨fun h2=>?_,fun h2=>⟨i+1,?_,by omega,by rw[aU h1 (by simp only[maxLen];omega)]⟩⟩
  ·have:l.findIdx (·== x)<=i:=by
    apply Nat.le_of_not_lt;intro hh;have:=List.not_of_lt_findIdx hh;rw[<-bT (d:=[]) h1,h2] at this;simp at this
   have e:l.findIdx (·== x)=i:=by omega
   unfold dK;rw[e,if_pos h1]
  ·by_cases hlt:i<l.findIdx (·== x)
   ·omega
   ·have e:l.findIdx (·== x)=i:=by omega
    have:=List.findIdx_getElem (w:=show l.findIdx (·== x)<l.length by omega);simp only[e] at this;rw[<-bT (d:=[]) h1,h2] at this;cases this
 ·unfold dK
  rw[if_neg (by omega)]
end Go.D3
namespace Go.D3
open Go Proofs
set_option maxHeartbeats 4000000
set_option maxRecDepth 100000
theorem zq(L:List (List Int))(a b c:Int):(aB L).dY [.slice (.int .i64 0) [.int .i64 a,.int .i64 b,.int .i64 c]]=aB (L++[[a,b,c]]):=sa (f:=ints) (x:=[a,b,c])
theorem zr(L:List (List Int))(a b c d:Int):(aB L).dY [.slice (.int .i64 0) [.int .i64 a,.int .i64 b,.int .i64 c,.int .i64 d]]=aB (L++[[a,b,c,d]]):=sa (f:=ints) (x:=[a,b,c,d])
def yP:List Nat:=[0,1,2,6,3]
def ED:Sl:=al Try.types Try.f69 yP []
theorem KW:aX Try.prog Try.f69 yP ED 3=true:=by decide +kernel
theorem te(c:Cat)(f g:Int)(h0 : 0<=f)(h1:f<c.co.length)(h2 : 0<=g)(h3:g<(c.co.getD f.toNat []).length):aD Try.prog 69 [.v c.d,.v (.int .i64 f),.v (.int .i64 g)] (.int .i64 (c.aG f g)):=by
 refine a7 Try.func69 KW ?_;unfold ED al yP;simp only[go_sem];exact⟨⟨h0,h1⟩,⟨h2,h3⟩,rfl⟩
def y4:List Nat:=[0,1,4,2,3,5,6,7,8,9]
def EO:Sl:=al Try.types Try.f48 y4 []
theorem K8:aX Try.prog Try.f48 y4 EO 2=true:=by decide +kernel
theorem DD(c:Cat)(hc:c.Shape):aD Try.prog 48 [.v (aL c).d,.v (aL c).d] (aB (ah c)):=by
 have hfr:=hc.fr;have hob0:=hc.iq;have hob8:=hc.jU;have hln:(bN c.ob.toNat).length=c.ob.toNat:=dS;simp only[aL];refine a7 Try.func48 K8 ?_;unfold EO al y4;simp only[go_sem];refine ba [7,8,9] (fun a:Nat=>[(6,.int .i64 a),(5,.o (aB (ir c a)))]) (fun a=>a<=c.ob.toNat) (fun a=>c.ob.toNat-a) 0 (by simp only[go_sem];rfl) (Nat.zero_le _) rfl ?_;intro a ha;simp only[go_sem];refine⟨fun h=>?_,fun h=>?_⟩
 ·refine ba [8,9] (fun b:Nat=>[(7,.int .i64 b),(5,.o (aB (ir c a++gM c a b)))]) (fun b=>b<=c.ob.toNat) (fun b=>c.ob.toNat-b) 0 (by simp only[go_sem];rfl) (Nat.zero_le _) ?_ ?_
  ·simp[gM,go_sem]
  intro b hb;have hga:=jg (n:=c.ob.toNat) (i:=a) (by omega);simp only[go_sem];refine⟨fun h1=>?_,fun h1=>?_⟩
  ·have hgb:=jg (n:=c.ob.toNat) (i:=b) (by omega)
   simp only[hga,hgb];refine⟨by omega,by omega,aC (wY c a b (by omega) hc.to) rfl (.inl (ch _)) ?_⟩;simp only[go_sem];refine ba [] (fun i:Nat=>[(9,.int .i64 i),(5,.o (aB (ir c a++gM c a b++(eN c a b).take i)))]) (fun i=>i<=(c.aH a b).length) (fun i=>(c.aH a b).length-i) 0 (by simp only[go_sem];rfl) (Nat.zero_le _) ?_ ?_
   ·simp[go_sem]
   intro i hi;have h40:=@jG c a b hfr;have hl1:=@vL c a hfr (by omega) hob8;have hl2:=@vK c a b hfr (by omega);have hl3:((eN c a b).take i).length<=i:=List.length_take_le _ _;simp only[go_sem,zq];refine⟨fun h2=>⟨h2,by simp only[List.length_append] at *;omega,i+1,by omega,by omega,?_⟩,fun h2=>?_⟩
   ·rw[aU h2 (by simp only[maxLen];omega)]
    have:(eN c a b).take (i+1)=(eN c a b).take i++[[(a:Int),(b:Int),(c.aH a b).getD i 0]]:=by
     rw[List.take_add_one];unfold eN;rw[List.getElem?_map,List.getElem?_eq_getElem h2,bT h2];rfl
    rw[this,<-List.append_assoc]
   ·refine⟨b+1,by omega,by omega,?_⟩
    rw[aU (n:=9) (by omega) (by simp only[maxLen];omega),Cg,List.take_of_length_le (by unfold eN;rw[List.length_map];omega),List.append_assoc]
  ·obtain rfl:b=c.ob.toNat:=by omega
   refine⟨a+1,by omega,by omega,?_⟩;rw[aU (n:=9) (by omega) (by simp only[maxLen];omega),Ch]
 ·obtain rfl:a=c.ob.toNat:=by omega
  rfl
end Go.D3
namespace Go.D3
open Go Proofs
set_option maxHeartbeats 4000000
set_option maxRecDepth 100000
theorem AS{α β:Type}{f:α->List β}{l:List α}{i:Nat}(h:i<l.length)(d:α):(l.take (i+1)).flatMap f=(l.take i).flatMap f++f (l.getD i d):=by
 rw[List.take_add_one,List.flatMap_append,List.getElem?_eq_getElem h,bT h];simp
theorem AR{α:Type}{p:α->Bool}{l:List α}{i:Nat}(h:i<l.length)(d:α):(l.take (i+1)).filter p=(l.take i).filter p++if p (l.getD i d)=true then[l.getD i d] else[]:=by
 rw[List.take_add_one,List.filter_append,List.getElem?_eq_getElem h,bT h];simp only[Option.toList_some,List.filter_cons,List.filter_nil]
def gi(c:Cat)(p q:List Int)(s t:Nat)(u:Int)(k:Nat):List (List Int):=(((c.aH (p.getD 1 0) (q.getD 1 0)).take k).filter fun v=>c.aG u (q.getD 2 0) == c.aG (p.getD 2 0) v).map fun v=>[(s:Int),(t:Int),u,v]
theorem F5{c:Cat}{O:List (List Int)}{s t:Nat}:gS c O s t=(c.aH ((O.getD s []).getD 0 0) ((O.getD t []).getD 0 0)).flatMap fun u=>gi c (O.getD s []) (O.getD t []) s t u (c.aH ((O.getD s []).getD 1 0) ((O.getD t []).getD 1 0)).length:=by
 unfold gS fm gi;rw[List.map_flatMap];congr 1;funext u;rw[List.map_map,List.take_length];rfl
theorem zA{c:Cat}{p q:List Int}{s t:Nat}{u:Int}{k:Nat}:(gi c p q s t u k).length<=k:=by
 unfold gi;rw[List.length_map];exact Nat.le_trans (List.length_filter_le _ _) (List.length_take_le _ _)
theorem zB{c:Cat}{p q:List Int}{s t:Nat}{u:Int}{k:Nat}(h:k<(c.aH (p.getD 1 0) (q.getD 1 0)).length):gi c p q s t u (k+1)=gi c p q s t u k++if(c.aG u (q.getD 2 0) == c.aG (p.getD 2 0) ((c.aH (p.getD 1 0) (q.getD 1 0)).getD k 0))=true then[[(s:Int),(t:Int),u,(c.aH (p.getD 1 0) (q.getD 1 0)).getD k 0]] else[]:=by
 unfold gi;rw[AR h 0,List.map_append];congr 1;split<;>rfl
theorem Hf{α β:Type}{f:α->List β}{m:Nat}(h:∀a,(f a).length<=m)(l:List α):(l.flatMap f).length<=l.length*m:=by
 induction l with
 | nil=>simp
 | cons a l ih =>
  rw[List.flatMap_cons,List.length_append,List.length_cons,Nat.succ_mul];have:=h a;omega
def yU:List Nat:=[0,1,2,6,3,4,7,8,9,10,11,12,13,14,15]
def EI:Sl:=al Try.types Try.f64 yU []
theorem K1:aX Try.prog Try.f64 yU EI 3=true:=by decide +kernel
theorem Nr(c:Cat)(hc:c.Shape)(h8:(ah c).length<=8):aD Try.prog 64 [.v (aL c).d,.v (aL c).d,.v (aB (ah c))] (aB (an c)):=by
 have hfr:=hc.fr;have hco:=hc.co;have hlf:(bN c.fr.length).length=c.fr.length:=dS;simp only[aL];refine a7 Try.func64 K1 ?_;unfold EI al yU;simp only[go_sem];refine ba [8,9,10,11,12,13,14] (fun s:Nat=>[(7,.int .i64 s),(6,.o (aB (ff c (ah c) s)))]) (fun s=>s<=(ah c).length) (fun s=>(ah c).length-s) 0 (by simp only[go_sem];rfl) (Nat.zero_le _) rfl ?_;intro s hs;simp only[go_sem];refine⟨fun h=>?_,fun h=>?_⟩
 ·refine ba [9,10,11,12,13,14] (fun t:Nat=>[(8,.int .i64 t),(6,.o (aB (ff c (ah c) s++dF c (ah c) s t)))]) (fun t=>t<=(ah c).length) (fun t=>(ah c).length-t) 0 (by simp only[go_sem];rfl) (Nat.zero_le _) ?_ ?_
  ·simp[dF,go_sem]
  intro t ht;simp only[go_sem];refine⟨fun h1=>?_,fun h1=>?_⟩
  ·obtain⟨a1,b1,g1,o1⟩:=gR h
   obtain⟨a2,b2,g2,o2⟩:=gR h1;have e1:((ah c).getD s []).length=3:=by rw[o1.eq];rfl
   have e2:((ah c).getD t []).length=3:=by rw[o2.eq];rfl
   have x1:((ah c).getD s []).getD 2 0=g1:=by rw[o1.eq];rfl
   have x2:((ah c).getD t []).getD 2 0=g2:=by rw[o2.eq];rfl
   have y1:=o1.h0;have y2:=o2.h0;rw[<-x1] at y1;rw[<-x2] at y2;have hB:=@F5 c (ah c) s t;generalize(ah c).getD s []=p at *;generalize(ah c).getD t []=q at *;refine⟨h,h1,by omega,by omega,aC (wY c (p.getD 0 0) (q.getD 0 0) (by omega) hc.to) rfl (.inl (ch _)) ?_⟩;simp only[go_sem];refine⟨by omega,by omega,aC (wY c (p.getD 1 0) (q.getD 1 0) (by omega) hc.to) rfl (.inl (ch _)) ?_⟩;simp only[go_sem];have hU:=@jG c (p.getD 0 0) (q.getD 0 0) hfr;have hV:=@jG c (p.getD 1 0) (q.getD 1 0) hfr
   have mU:∀i,i<(c.aH (p.getD 0 0) (q.getD 0 0)).length->0<=(c.aH (p.getD 0 0) (q.getD 0 0)).getD i 0/\(c.aH (p.getD 0 0) (q.getD 0 0)).getD i 0<c.fr.length:=fun i hi=>by
    have:=Cat.cU.1 (show(c.aH (p.getD 0 0) (q.getD 0 0)).getD i 0∈c.aH (p.getD 0 0) (q.getD 0 0) by rw[bT hi];exact List.getElem_mem hi);exact⟨this.1,this.2.1⟩
   have mV:∀i,i<(c.aH (p.getD 1 0) (q.getD 1 0)).length->0<=(c.aH (p.getD 1 0) (q.getD 1 0)).getD i 0/\(c.aH (p.getD 1 0) (q.getD 1 0)).getD i 0<c.fr.length:=fun i hi=>by
    have:=Cat.cU.1 (show(c.aH (p.getD 1 0) (q.getD 1 0)).getD i 0∈c.aH (p.getD 1 0) (q.getD 1 0) by rw[bT hi];exact List.getElem_mem hi);exact⟨this.1,this.2.1⟩
   have hT:=@zz c (ah c) s hfr (by omega) h8;have hR:=@zy c (ah c) s t hfr (by omega);refine ba [14] (fun i:Nat=>[(13,.int .i64 i),(6,.o (aB (ff c (ah c) s++dF c (ah c) s t++((c.aH (p.getD 0 0) (q.getD 0 0)).take i).flatMap fun u=>gi c p q s t u (c.aH (p.getD 1 0) (q.getD 1 0)).length)))]) (fun i=>i<=(c.aH (p.getD 0 0) (q.getD 0 0)).length) (fun i=>(c.aH (p.getD 0 0) (q.getD 0 0)).length-i) 0 (by simp only[go_sem];rfl) (Nat.zero_le _) ?_ ?_
   ·simp[go_sem]
   intro i hi;simp only[go_sem];refine⟨fun h2=>?_,fun h2=>?_⟩
   ·have gU:=mU i h2
    have hFl:=Hf (f:=fun u=>gi c p q s t u (c.aH (p.getD 1 0) (q.getD 1 0)).length) (m:=40) (fun u=>Nat.le_trans zA hV) ((c.aH (p.getD 0 0) (q.getD 0 0)).take i);have hFt:=List.length_take_le i (c.aH (p.getD 0 0) (q.getD 0 0));refine ba [] (fun j:Nat=>[(14,.int .i64 j),(6,.o (aB ((ff c (ah c) s++dF c (ah c) s t++((c.aH (p.getD 0 0) (q.getD 0 0)).take i).flatMap fun u=>gi c p q s t u (c.aH (p.getD 1 0) (q.getD 1 0)).length)++gi c p q s t ((c.aH (p.getD 0 0) (q.getD 0 0)).getD i 0) j)))]) (fun j=>j<=(c.aH (p.getD 1 0) (q.getD 1 0)).length) (fun j=>(c.aH (p.getD 1 0) (q.getD 1 0)).length-j) 0 (by simp only[go_sem];rfl) (Nat.zero_le _) ?_ ?_
    ·simp[gi,go_sem]
    intro j hj;have hA:=@zA c p q s t ((c.aH (p.getD 0 0) (q.getD 0 0)).getD i 0) j;generalize hX:(ff c (ah c) s++dF c (ah c) s t++((c.aH (p.getD 0 0) (q.getD 0 0)).take i).flatMap fun u=>gi c p q s t u (c.aH (p.getD 1 0) (q.getD 1 0)).length)=X;have hXl:X.length<=200000:=by rw[<-hX];simp only[List.length_append];omega
    have eU:=lb gU.1 gU.2;simp only[go_sem,eU];refine⟨fun h3=>?_,fun h3=>?_⟩
    ·have gV:=mV j h3
     have eV:=lb gV.1 gV.2;have rw1:=hc.iA gU.1 gU.2;have rw2:=hc.iA y1.1 y1.2;refine⟨h2,⟨gU.1,by omega⟩,by omega,aC (te c _ _ gU.1 (by omega) y2.1 (by omega)) rfl (.inl rfl) ?_⟩;simp only[go_sem,eV];refine⟨by omega,h3,⟨gV.1,by omega⟩,aC (te c _ _ y1.1 (by omega) gV.1 (by omega)) rfl (.inl rfl) ?_⟩;simp only[go_sem,zr];refine⟨fun h4=>⟨h2,h3,by simp only[List.length_append];omega,j+1,by omega,by omega,?_⟩,fun h4=>⟨j+1,by omega,by omega,?_⟩⟩
     ·rw[aU h3 (by simp only[maxLen];omega),zB h3,if_pos (by simpa using h4),List.append_assoc]
     ·rw[aU h3 (by simp only[maxLen];omega),zB h3,if_neg (by simpa using h4),List.append_nil]
    ·obtain rfl:j=(c.aH (p.getD 1 0) (q.getD 1 0)).length:=by omega
     refine⟨i+1,by omega,by omega,?_⟩;rw[aU h2 (by simp only[maxLen];omega),AS h2 0,<-hX,List.append_assoc]
   ·obtain rfl:i=(c.aH (p.getD 0 0) (q.getD 0 0)).length:=by omega
    refine⟨t+1,by omega,by omega,?_⟩;rw[aU (n:=9) (by omega) (by simp only[maxLen];omega),o9,hB,List.take_length,List.append_assoc]
  ·obtain rfl:t=(ah c).length:=by omega
   refine⟨s+1,by omega,by omega,?_⟩;rw[aU (n:=9) (by omega) (by simp only[maxLen];omega),qZ]
 ·obtain rfl:s=(ah c).length:=by omega
  rfl
end Go.D3
namespace Go.D3
open Go Proofs
set_option maxHeartbeats 4000000
set_option maxRecDepth 100000
def nu(c:Cat)(co:List (List Int)):Cat:=⟨(ah c).length,(an c).map fun e=>e.getD 0 0,(an c).map fun e=>e.getD 1 0,(List.range (ah c).length).map fun x=>dK (an c) (dE c x),co⟩
def lW(c:Cat):List (List Int):=(List.range (an c).length).map fun i=>(List.range (an c).length).map (fx c i)
abbrev kB(n:Int)(fr to aK:List Int)(co:List (List Int)):D:=.box [.int .i64 n,.o (ints fr),.o (ints to),.o (ints aK),.o (aB co)]
def cE(c:Cat)(k:Nat)(i:Nat):List Int:=((an c).take i).map fun e=>e.getD k 0
theorem qU{c:Cat}{k i:Nat}(h:i<(an c).length):cE c k (i+1)=cE c k i++[((an c).getD i []).getD k 0]:=by
 unfold cE;rw[List.take_add_one,List.map_append,List.getElem?_eq_getElem h,bT h];rfl
theorem qT{c:Cat}{k i:Nat}:(cE c k i).length<=i:=by unfold cE;rw[List.length_map];exact List.length_take_le _ _
theorem iH{c:Cat}{k:Nat}:cE c k (an c).length=(an c).map fun e=>e.getD k 0:=by unfold cE;rw[List.take_length]
theorem sd{α:Type}{f:Nat->α}{n:Nat}:(List.range (n+1)).map f=(List.range n).map f++[f n]:=by simp[List.range_succ]
theorem nW{l:List (List Int)}{k x:Nat}(h:x<l.length):(l.map fun e=>e.getD k 0).getD x 0=(l.getD x []).getD k 0:=by
 rw[List.getD_eq_getElem?_getD,List.getElem?_map,List.getElem?_eq_getElem h,bT h];rfl
def yV:List Nat:=[0,1,2,3,4,5,12,8,9,13,14,15,16,17,18,19,20]
def EJ:Sl:=al Try.types Try.f65 yV []
theorem K2:aX Try.prog Try.f65 yV EJ 6=true:=by decide +kernel
theorem Ns(c:Cat)(hc:c.Shape)(h8:(ah c).length<=8) :
  aD Try.prog 65 [.v (.int .i64 (ah c).length),.v (aB (an c)),.v c.d,.v c.d,.v (ints ((ah c).map fun x=>x.getD 0 0)),.v (ints ((ah c).map fun x=>x.getD 1 0))] (nu c (if(an c).length<=40 then lW c else[])).d:=by
 have hfr:=hc.fr;have hco:=hc.co;have hidn:=hc.aK;have hA:(an c).length<=102400:=zz hfr h8 h8
 have h4:∀i,i<(an c).length->((an c).getD i []).length=4:=fun i hi=>by
  obtain⟨s,t,u,v,k⟩:=oV hi;rw[k.eq];rfl
 have hx4:∀i,i<(an c).length->((an c).getD i []).length<=1048576:=fun i hi=>by rw[h4 i hi];omega
 refine a7 Try.func65 K2 ?_;unfold EJ al yV;simp only[go_sem];refine ba [] (fun i:Nat=>[(10,.int .i64 i),(9,kB (ah c).length (cE c 0 i) (cE c 1 i) [] [])]) (fun i=>i<=(an c).length) (fun i=>(an c).length-i) 0 (by simp only[go_sem];rfl) (Nat.zero_le _) rfl ?_;intro i hi;have l0:=@qT c 0 i;have l1:=@qT c 1 i;simp only[go_sem];refine⟨fun h=>?_,fun h=>?_⟩
 ·have:=h4 i h
  refine⟨h,by omega,by omega,h,by omega,by omega,i+1,by omega,by omega,?_⟩;rw[aU h (by simp only[maxLen];omega),qU h,qU h]
 obtain rfl:i=(an c).length:=by omega
 refine ba [] (fun x:Nat=>[(11,.int .i64 x),(9,kB (ah c).length (cE c 0 (an c).length) (cE c 1 (an c).length) ((List.range x).map fun x=>dK (an c) (dE c x)) [])]) (fun x=>x<=(ah c).length) (fun x=>(ah c).length-x) 0 (by simp only[go_sem];rfl) (Nat.zero_le _) rfl ?_;intro x hx;have lx:((List.range x).map fun x=>dK (an c) (dE c x)).length=x:=by simp
 simp only[go_sem];refine⟨fun h=>?_,fun h=>?_⟩
 ·obtain⟨a1,b1,g1,o1⟩:=gR h
  have e0:((ah c).map fun x=>x.getD 0 0).getD x 0=a1:=by rw[nW h,o1.eq];rfl
  have e1:((ah c).map fun x=>x.getD 1 0).getD x 0=b1:=by rw[nW h,o1.eq];rfl
  have a0:=o1.a0;have b0:=o1.b0;have hI:dE c x=[(x:Int),(x:Int),c.aK.getD a1.toNat 0,c.aK.getD b1.toNat 0]:=by unfold dE Cat.fF;rw[o1.eq];rfl
  simp only[List.length_map,e0,e1];refine⟨h,⟨by omega,by omega⟩,h,⟨by omega,by omega⟩,aC (DC (an c) (dE c x) (by omega) hx4) (by rw[hI];rfl) (.inl rfl) ?_⟩;simp only[go_sem];refine⟨by omega,x+1,by omega,by omega,?_⟩;rw[aU h (by simp only[maxLen];omega),sd]
 obtain rfl:x=(ah c).length:=by omega
 have hfl:(cE c 0 (an c).length).length=(an c).length:=by rw[iH,List.length_map]
 refine ba [13,14,15,16] (fun i:Nat=>[(12,.int .i64 i),(9,kB (ah c).length (cE c 0 (an c).length) (cE c 1 (an c).length) ((List.range (ah c).length).map fun x=>dK (an c) (dE c x)) ((List.range i).map fun i=>(List.range (an c).length).map (fx c i)))]) (fun i=>i<=(an c).length/\(40<(an c).length->i=0)) (fun i=>(an c).length-i) 0 (by simp only[go_sem];rfl) ⟨Nat.zero_le _,fun _=>rfl⟩ rfl ?_;rintro i ⟨hi,hi0⟩;have li:((List.range i).map fun i=>(List.range (an c).length).map (fx c i)).length=i:=by simp
 simp only[go_sem];refine dx (fun _=>Dy ⟨(ah c).length,cE c 0 (an c).length,cE c 1 (an c).length,(List.range (ah c).length).map fun x=>dK (an c) (dE c x),(List.range i).map fun i=>(List.range (an c).length).map (fx c i)⟩) rfl (fun h=>h) (.inl rfl) ?_;simp only[go_sem,hfl];refine⟨fun h1=>?_,fun h1=>?_⟩
 ·simp only[Bool.and_eq_true,decide_eq_true_eq] at h1
  have hi1:=h1.1;have hn:(an c).length<=40:=by have:=h1.2.2;omega
  refine ba [15,16] (fun j:Nat=>[(14,.int .i64 j),(13,.o (ints ((List.range j).map (fx c i))))]) (fun j=>j<=(an c).length) (fun j=>(an c).length-j) 0 (by simp only[go_sem];rfl) (Nat.zero_le _) rfl ?_;intro j hj;have lj:((List.range j).map (fx c i)).length=j:=by simp
  simp only[go_sem];refine⟨fun h2=>?_,fun h2=>?_⟩
  ·obtain⟨s,t,u,v,k1⟩:=oV hi1
   obtain⟨s',t',u',v',k2⟩:=oV h2;have hX:fx c i j=_:=rfl
   conv at hX=>rhs;unfold fx
   obtain⟨u1,u2,_⟩:=Cat.cU.1 k1.u0;obtain⟨v1,v2,_⟩:=Cat.cU.1 k1.v0;obtain⟨u3,u4,_⟩:=Cat.cU.1 k2.u0;obtain⟨v3,v4,_⟩:=Cat.cU.1 k2.v0;have r1:=hc.iA u1 u2;have r2:=hc.iA v1 v2;rw[k1.eq,k2.eq] at hX;simp only[k1.eq,k2.eq,nw,List.getD_cons_zero,List.getD_cons_succ] at hX|-
   simp only[go_sem];refine⟨hi1,h2,by omega,by omega,fun h3=>⟨by omega,j+1,by omega,by omega,?_⟩,fun h3=>?_⟩
   ·rw[aU h2 (by simp only[maxLen];omega),sd,hX,if_neg (by simpa using h3)]
   ·refine⟨by omega,by omega,by omega,by omega,aC (te c u u' u1 (by omega) u3 (by omega)) rfl (.inl rfl) ?_⟩
    simp only[go_sem];refine⟨by omega,by omega,aC (te c v v' v1 (by omega) v3 (by omega)) rfl (.inl rfl) ?_⟩;simp only[go_sem];refine aC (DC (an c) [(s:Int),(t':Int),c.aG u u',c.aG v v'] (by omega) hx4) rfl (.inl rfl) ?_;simp only[go_sem];refine⟨by omega,j+1,by omega,by omega,?_⟩;rw[aU h2 (by simp only[maxLen];omega),sd,hX,if_pos (by simpa using h3)]
  ·obtain rfl:j=(an c).length:=by omega
   refine⟨by omega,i+1,⟨by omega,fun h=>by omega⟩,by omega,?_⟩;rw[aU hi1 (by simp only[maxLen];omega),sd]
 ·simp only[iH]
  by_cases hn:(an c).length<=40
  ·have:i=(an c).length:=by
    have:¬i<(an c).length:=fun hlt=>by
     rw[decide_eq_true hlt,decide_eq_true (show((ah c).length:Int)<=8 by omega),decide_eq_true (show((an c).length:Int)<=40 by omega)] at h1;cases h1
    omega
   subst this;rw[if_pos hn];rfl
  ·rw[if_neg hn,hi0 (by omega)];rfl
end Go.D3
