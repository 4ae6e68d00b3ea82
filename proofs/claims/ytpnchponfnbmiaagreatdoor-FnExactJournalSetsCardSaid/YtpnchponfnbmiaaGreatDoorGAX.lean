/- CONTRACTS: checks of texts, both sides. -/
import Derived.Test.YtpnchponfnbmiaaGreatDoorGAN
namespace Go.D3
open Go Proofs
set_option maxHeartbeats 4000000
set_option maxRecDepth 100000
def Dq:List Nat:=[0,1,2,6,7,3,8,9]
def LR:Sl:=ah Tryz.types Tryz.f160 Dq []
theorem Vh:aC Tryz.prog Tryz.f160 Dq LR 3=true:=by decide +kernel
theorem YT(s:aa)(sz:List Int)(mp:List (List Int))(hok:s.xO sz mp)(hsz:∀x∈sz,x<=4611686018427387900):aw Tryz.prog 160 [.v (aa.d s),.v (ints sz),.v (aF mp)] (oS (s.brk sz mp s.lf.length)):=by
 refine eZ fun hw=>?_
 simp only[dp,fZ,aa.d,aa.cells,D.dG,ik] at hw;have hl:s.lf.length<=maxLen:=hw.1.2.2.2.1.1;obtain⟨hrt,hok⟩:=hok;refine aK Tryz.func160 Vh ?_;unfold LR ah Dq;simp only[go_sem];refine aE [7] (fun(i:Nat)=>[(6,.int .i64 i)]) (fun i=>i<=s.lf.length/\s.brk sz mp i=none) (fun i=>s.lf.length-i) 0 (by simp only[go_sem];rfl) ⟨Nat.zero_le _,rfl⟩ rfl ?_;rintro i ⟨hi,ha⟩;simp only[go_sem];refine⟨fun h=>?_,fun h=>?_⟩
 ·obtain⟨aM,hrow⟩:=hok i h
  have hms:sz.getD (s.lf.getD i U.zero).st.toNat 0<=4611686018427387900:=by
   have hlt:(s.lf.getD i U.zero).st.toNat<sz.length:=by omega
   rw[aN hlt];exact hsz _ (List.getElem_mem _)
  have hbrk:∀o,qz mp (s.lf.getD i U.zero).ed (s.rt.getD i U.zero).ed (sz.getD (s.lf.getD i U.zero).st.toNat 0).toNat=o->(match o with | some r=>s.brk sz mp s.lf.length=some (i,r) | none=>s.brk sz mp (i+1)=none):=by
   intro o ho;cases o with
   | some r=>exact vc h ha (by rw[ho];rfl)
   | none=>exact ve ha (by rw[ho];rfl)
  refine aE [] (fun(r:Nat)=>[(7,.int .i64 r)]) (fun r=>r<=(sz.getD (s.lf.getD i U.zero).st.toNat 0).toNat/\qz mp (s.lf.getD i U.zero).ed (s.rt.getD i U.zero).ed r=none) (fun r=>(sz.getD (s.lf.getD i U.zero).st.toNat 0).toNat-r) 0 (by simp only[go_sem];rfl) ⟨Nat.zero_le _,rfl⟩ rfl ?_;rintro r ⟨hr,hb⟩;simp only[go_sem];refine⟨h,aM,fun h2=>?_,fun h2=>?_⟩
  ·obtain⟨o1,o2⟩:=hrow r h2
   refine⟨h,an (AS mp _ r o1) rfl (.inl rfl) ?_⟩;simp only[go_sem];refine⟨by omega,an (AS mp _ r o2) rfl (.inl rfl) ?_⟩;simp only[go_sem];refine⟨fun h3=>?_,fun h3=>⟨r+1,⟨by omega,ve hb (if_pos (by simpa using h3))⟩,by omega,by rw[wrap_small (by omega) (by omega)];rfl⟩⟩;have:=hbrk _ (vc (show r<(sz.getD (s.lf.getD i U.zero).st.toNat 0).toNat by omega) hb (if_neg (by simpa using h3)));simp only at this;rw[this];rfl
  ·have:=hbrk none (by rw[show(sz.getD (s.lf.getD i U.zero).st.toNat 0).toNat=r by omega];exact hb)
   simp only at this;exact⟨i+1,⟨h,this⟩,by omega,by rw[aL h hl]⟩
 ·rw[show i=s.lf.length by omega] at ha
  rw[ha];rfl
def DG:List Nat:=[0,2,1,3,4]
def L8:Sl:=ah Tryz.types Tryz.f94 DG []
theorem Vy:aC Tryz.prog Tryz.f94 DG L8 1=true:=by decide +kernel
theorem Y5(s:aa)(hn : 0<=s.nd)(hn8:s.nd<=8)(h8:s.fr.length<=8):aw Tryz.prog 94 [.v (aa.d s)] (ak.d ⟨List.replicate s.nd.toNat 0,List.replicate s.fr.length []⟩):=by
 refine aK Tryz.func94 Vy ?_;unfold L8 ah DG;simp only[go_sem];refine⟨by omega,?_⟩;refine aE [] (fun(k:Nat)=>[(4,.int .i64 k),(3,.box [.o (ints (List.replicate s.nd.toNat 0)),.o (aF (List.replicate k []))])]) (fun k=>k<=s.fr.length) (fun k=>s.fr.length-k) 0 (by simp only[go_sem];rfl) (Nat.zero_le _) rfl ?_;intro k hk;simp only[go_sem];rw[List.length_replicate];refine⟨fun h=>⟨by omega,k+1,h,by omega,?_⟩,fun h=>by rw[show k=s.fr.length by omega]⟩;rw[aL h (by simp only[maxLen];omega),<-List.replicate_succ']
theorem JX{s:aa}{d:ak}(_:di s)(hd:dH s d):s.fV d.sz d.mp=(List.range d.mp.length).all fun e=>!(d.mp.getD e []).contains (-1):=by
 have h17:bQ 17 d.sz=true:=by
  unfold bQ;rw[List.all_eq_true];intro x hx;obtain⟨j,hj,rfl⟩:=List.getElem_of_mem hx;have:=hd.gM j hj;rw[aN hj] at this;simp only[Bool.and_eq_true,decide_eq_true_eq];omega
 have h1:((d.sz.length:Int) == s.nd&&bQ 17 d.sz&&(d.mp.length == s.fr.length))=true:=by rw[h17,hd.nd,hd.mp];simp
 unfold aa.fV;rw[h1,Bool.true_and]
 have:∀e,e∈List.range d.mp.length->s.lC d.sz d.mp e=!(d.mp.getD e []).contains (-1):=by
  intro e he;have he:=List.mem_range.1 he;unfold aa.lC;have hlen:(((d.mp.getD e []).length:Int) == d.sz.getD (s.fr.getD e 0).toNat 0)=true:=by rw[beq_iff_eq];exact hd.len e he
  rw[hlen,Bool.true_and,Bool.eq_iff_iff,Bool.not_eq_true',bQ,List.all_eq_true];constructor
  ·intro h
   rw[<-Bool.not_eq_true,List.contains_iff_mem];intro hm;have:=h _ hm;simp at this
  ·intro h x hx
   obtain⟨j,hj,rfl⟩:=List.getElem_of_mem hx;have hv:=hd.val e j he hj;rw[aN hj] at hv
   have hne:(d.mp.getD e [])[j]≠-1:=fun hh=>by
    rw[<-Bool.not_eq_true,List.contains_iff_mem] at h;exact h (hh▸List.getElem_mem hj)
   simp only[Bool.and_eq_true,decide_eq_true_eq];omega
 rw[Bool.eq_iff_iff,List.all_eq_true,List.all_eq_true];exact⟨fun h e he=>this e he▸h e he,fun h e he=>by rw[this e he];exact h e he⟩
def DL:List Nat:=[0,1,4,2,3,5,6]
def Md:Sl:=ah Tryz.types Tryz.f123 DL []
theorem VD:aC Tryz.prog Tryz.f123 DL Md 2=true:=by decide +kernel
theorem JT(s:aa)(d:ak)(h:s.ok=true)(hd:dH s d):aw Tryz.prog 123 [.v (aa.d s),.v (ak.d d)] (.bool (d.fJ s)):=by
 have hs:=gw (fj h).1;have hm:=hd.mp;have h8:=hs.f8;refine aK Tryz.func123 VD ?_;unfold Md ah DL;simp only[go_sem];refine aE [6] (fun(k:Nat)=>[(5,.int .i64 k)]) (fun k=>k<=d.mp.length/\(List.range k).all (fun e=>!(d.mp.getD e []).contains (-1))=true) (fun k=>d.mp.length-k) 0 (by simp only[go_sem];rfl) ⟨Nat.zero_le _,rfl⟩ rfl ?_;rintro k ⟨hk,ha⟩;simp only[go_sem];refine⟨fun h2=>⟨h2,an (YJ (d.mp.getD k []) (-1) (by have:=hd.vI hs k;omega)) rfl (.inl rfl) ?_⟩,fun h2=>?_⟩
 ·simp only[go_sem]
  have hR:=JX hs hd;refine⟨fun h3=>?_,fun h3=>⟨k+1,⟨h2,?_⟩,by omega,by rw[aL h2 (by simp only[maxLen];omega)]⟩⟩
  ·unfold ak.fJ
   rw[hR];symm;rw[Bool.and_eq_false_iff,List.all_eq_false];exact .inl ⟨k,List.mem_range.2 h2,by rw[h3];simp⟩
  ·rw[List.range_succ,List.all_append,ha,Bool.true_and,List.all_cons,h3];rfl
 ·have hR:=JX hs hd
  rw[show k=d.mp.length by omega] at ha;rw[ha] at hR
  refine an (YT s d.sz d.mp (xP h hR) (fun x hx=>by
   obtain⟨j,hj,rfl⟩:=List.getElem_of_mem hx;have:=hd.gM j hj;rw[aN hj] at this
   omega)) rfl (.inl (by cases s.brk d.sz d.mp s.lf.length<;>rfl)) ?_
  unfold ak.fJ;rw[hR];cases s.brk d.sz d.mp s.lf.length with
  | none =>
   simp only[oS];simp only[go_sem]
   all_goals simp
  | some p =>
   obtain⟨i,r⟩:=p;simp only[oS];simp only[go_sem]
   all_goals simp
   all_goals omega
end Go.D3
namespace Go.D3
open Go Proofs
set_option maxHeartbeats 4000000
set_option maxRecDepth 100000
set_option maxHeartbeats 2000000
theorem ZO{mp:List (List Int)}{e i:Nat}{v:Int}:D.slice (ints []) ((mp.map ints).set e ((ae (D.int .i64) 0 (mp.getD e [])).eG i 0 (.int .i64 v)))=aF (mp.set e ((mp.getD e []).set i v)):=by
 have e1:(ae (D.int .i64) 0 (mp.getD e [])).eG i 0 (.int .i64 v)=ae (D.int .i64) 0 ((mp.getD e []).set i v):=by
  unfold ae;rw[List.map_set];show D.slice _ (List.set _ _ (dQ _ 0 _))=_;congr 2;rw[List.getD_eq_getElem?_getD,List.getElem?_map];cases(mp.getD e [])[i]?<;>rfl
 rw[e1];exact vG (f:=ints) (d:=[]) (l:=mp) (i:=e) (x:=(mp.getD e []).set i v)
def DE:List Nat:=[0,1,2,6,7,3,4,5,8,9]
def L6:Sl:=ah Tryz.types Tryz.f122 DE []
theorem Vw:aC Tryz.prog Tryz.f122 DE L6 3=true:=by decide +kernel
theorem Y3(s:aa)(d:ak)(c:az)(hs:di s)(hd:dH s d):aw Tryz.prog 122 [.v (aa.d s),.v (ak.d d),.v (az.d c)] (if d.can s c=true then .al [ak.d (d.app s c),.bool true] else .al [ak.d ak.zero,.bool false]):=by
 obtain⟨m1,m2⟩:=hd.small hs;have hnd:=hd.nd;have hmp:=hd.mp;have n0:=hs.n0;have n8:=hs.n8;have f8:=hs.f8;have hto:=hs.to;have hw1:IntKind.i64.wrap (s.nd-1)=s.nd-1:=rV (by omega) (by omega);have hw2:IntKind.i64.wrap ((s.fr.length:Int)-1)=(s.fr.length:Int)-1:=rV (by omega) (by omega);refine aK Tryz.func122 Vw ?_;unfold L6 ah DE;simp only[go_sem];refine an (jf d.sz m1) rfl (.inl (bT _)) ?_;simp only[go_sem];refine an (JO d.mp m2) rfl (.inl (mz _)) ?_;simp only[go_sem];rw[hw1];refine bu (fun _=>pY _ _ _) rfl (fun h=>h) (.inl rfl) ?_;simp only[go_sem];have hin:aR c.fi 0 (s.nd-1)=true->0<=c.fi/\c.fi<d.sz.length:=by unfold aR;simp;omega
 have h16:aR c.fi 0 (s.nd-1)=true->(decide (d.sz.getD c.fi.toNat 0<16))=!(d.sz.getD c.fi.toNat 0 == 16):=fun h=>by
  have:=hin h;have:=hd.gM c.fi.toNat (by omega);rw[Bool.eq_iff_iff];simp only[decide_eq_true_eq,Bool.not_eq_true',beq_eq_false_iff_ne];omega
 refine⟨fun h=>⟨h,hin (by rw[Bool.and_eq_true] at h;exact h.2)⟩,fun h=>?_,fun h=>?_⟩
 ·rw[Bool.and_eq_true,Bool.and_eq_true,Bool.and_eq_true,Bool.and_eq_true] at h
  obtain⟨⟨⟨⟨a1,a2⟩,a3⟩,a4⟩,a5⟩:=h;have hk:c.kd=1:=by simpa using a1
  have hc:d.can s c=true:=by
   unfold ak.can az.okB;rw[if_pos hk,if_pos hk,a2,a3,a4,<-h16 a4,a5];rfl
  rw[if_pos hc];unfold ak.app;rw[if_pos hk];have hi:=hin a4;have hsz:=hd.gM c.fi.toNat (by omega);rw[decide_eq_true_eq] at a5;refine⟨hi,hi,by omega,?_⟩;rw[wrap_small (by omega) (by omega)];refine aE [] (fun(k:Nat)=>[(9,.int .i64 k),(8,.box [.o (ints (d.sz.set c.fi.toNat (d.sz.getD c.fi.toNat 0+1))),.o (aF (fM d.mp (eN s.fr c.fi k)))])]) (fun k=>k<=s.fr.length) (fun k=>s.fr.length-k) 0 (by simp only[go_sem];rfl) (Nat.zero_le _) rfl ?_;intro k hkk;simp only[go_sem];have hkl:=hd.vI hs k;have hal:(fM d.mp (eN s.fr c.fi k)).length=d.mp.length:=ql;have hgk:(fM d.mp (eN s.fr c.fi k)).getD k []=d.mp.getD k []:=by rw[uF (by omega),if_neg (fun hh=>Nat.lt_irrefl _ hh.1)]
  refine⟨fun h1=>⟨h1,fun h3=>⟨⟨by omega,an (jf (d.mp.getD k []) (by omega)) rfl (.inl (bT _)) ?_⟩,by omega,an (jf (d.mp.getD k []) (by omega)) rfl (.inl (bT _)) ?_⟩,fun h3=>⟨k+1,h1,by omega,?_⟩⟩,fun h1=>by rw[show k=s.fr.length by omega]⟩
  all_goals try(
   simp only[go_sem];refine⟨by omega,by omega,by omega,k+1,h1,by omega,?_⟩
   rw[tj,if_pos (by simpa using h3),xr,Int.toNat_natCast,hgk,aL h1 (by simp only[maxLen];omega)])
  ·rw[tj,if_neg (by simpa using h3),List.append_nil,aL h1 (by simp only[maxLen];omega)]
 ·rw[hw2]
  refine bu (fun _=>pY _ _ _) rfl (fun h=>h) (.inl rfl) ?_;simp only[go_sem];have hin2:aR c.fi 0 ((s.fr.length:Int)-1)=true->0<=c.fi/\c.fi<s.fr.length:=by unfold aR;simp;omega
  have neg:d.can s c=false->D.al [D.agg [ae (D.int .i64) 0 [],ae ints [] []],D.bool false]=if d.can s c=true then D.al [D.agg [ints (d.app s c).sz,aF (d.app s c).mp],D.bool true] else D.al [D.agg [ints ak.zero.sz,aF ak.zero.mp],D.bool false]:=fun hc=>by rw[if_neg (by rw[hc];simp)];rfl
  have hk1:c.kd=1->d.can s c=false:=fun hk=>by
   unfold ak.can az.okB;rw[if_pos hk,if_pos hk];rw[show(c.kd == 1)=true by rw[hk];rfl,Bool.true_and] at h;cases a4:aR c.fi 0 (s.nd-1) with
   | false=>simp
   | true =>
    rw[a4,h16 a4] at h;rw[Bool.true_and];rw[Bool.and_true] at h;exact h
  have hcan:¬c.kd=1->d.can s c=((c.kd == 2)&&(aR c.fi 0 ((s.fr.length:Int)-1)&&aR c.se 0 (d.sz.getD (s.fr.getD c.fi.toNat 0).toNat 0-1)&&aR c.th 0 (d.sz.getD (s.to.getD c.fi.toNat 0).toNat 0-1))):=fun hk=>by
   unfold ak.can az.okB;rw[if_neg hk,if_neg hk]
  have hszb:∀k,-1<=d.sz.getD k 0-1/\d.sz.getD k 0<=16:=fun k=>by
   by_cases hkk:k<d.sz.length
   ·have:=hd.gM k hkk;omega
   ·rw[List.getD_eq_getElem?_getD,List.getElem?_eq_none (by omega)];simp
  have hwr:∀k,IntKind.i64.wrap (d.sz.getD k 0-1)=d.sz.getD k 0-1:=fun k=>by have:=hszb k;exact rV (by omega) (by omega)
  refine⟨fun h2=>?_,fun h2=>neg ?_⟩
  ·rw[Bool.and_eq_true] at h2
   obtain⟨b1,b2⟩:=h2;have hk2:c.kd=2:=by simpa using b1
   have hi:=hin2 b2;have hfi:=eM hs.fr (show c.fi.toNat<s.fr.length by omega);have hti:=eM hs.wZ (show c.fi.toNat<s.to.length by omega);rw[hwr];refine⟨hi,by omega,an (pY _ _ _) rfl (.inl rfl) ?_⟩;simp only[go_sem];rw[hwr];refine⟨fun h=>⟨h,by omega⟩,fun h=>⟨h,by omega⟩,bu (fun _=>pY _ _ _) rfl (fun h=>h) (.inl rfl) ?_⟩;simp only[go_sem];have hk:¬c.kd=1:=by omega
   have hcan:=hcan hk;rw[b1,b2,Bool.true_and,Bool.true_and] at hcan;refine⟨fun h=>by simpa using h,fun h3=>neg ?_,fun h3=>?_⟩
   ·rw[hcan]
    rw[Bool.or_eq_true,Bool.not_eq_true',Bool.not_eq_true'] at h3;rw[Bool.and_eq_false_iff];exact h3
   ·rw[Bool.or_eq_false_iff,Bool.not_eq_false',Bool.not_eq_false'] at h3
    have hc:d.can s c=true:=by rw[hcan,h3.1,h3.2];rfl
    have i2 : 0<=c.se/\c.se<(d.mp.getD c.fi.toNat []).length:=by
     have:=hd.len c.fi.toNat (by omega);have c2:=h3.1;unfold aR at c2;simp only[Bool.and_eq_true,decide_eq_true_eq] at c2;omega
    rw[if_pos hc];unfold ak.app;rw[if_neg hk];refine⟨⟨by omega,by omega⟩,i2,⟨by omega,by omega⟩,?_⟩;rw[ZO]
  ·by_cases hk:c.kd=1
   ·exact hk1 hk
   ·rw[hcan hk,<-Bool.and_assoc,<-Bool.and_assoc,h2];rfl
end Go.D3
namespace Go.D3
open Go Proofs
set_option maxHeartbeats 4000000
set_option maxRecDepth 100000
def gi:Int->List UInt8->Int
 | n,[]=>n
 | n,b::r=>gi ((31*n+(b.toNat:Int)).tmod 1000003) r
theorem E4{n:Int}{t:List UInt8}{i:Nat}(h:i<t.length):gi n (t.drop i)=gi ((31*n+((t.getD i 0).toNat:Int)).tmod 1000003) (t.drop (i+1)):=by
 rw[List.drop_eq_getElem_cons h,gi,aN h]
def Ca:List Nat:=[0,2,3,4]
def Ky:Sl:=ah Tryz.types Tryz.f167 Ca []
theorem T0:aC Tryz.prog Tryz.f167 Ca Ky 1=true:=by decide +kernel
theorem XQ(t:List UInt8):aw Tryz.prog 167 [.v (.str t)] (.int .i64 (gi 7 t)):=by
 refine eZ fun hw=>?_
 simp only[dp,D.dG] at hw;have hl:t.length<=maxLen:=hw.1;refine aK Tryz.func167 T0 ?_;unfold Ky ah Ca;simp only[go_sem];refine aE [] (fun(p:Nat×Int)=>[(2,.int .i64 p.2),(3,.int .i64 p.1)]) (fun p=>p.1<=t.length/\gi p.2 (t.drop p.1)=gi 7 t/\0<=p.2/\p.2<=1000003) (fun p=>t.length-p.1) (0,7) (by simp only[go_sem];rfl) ⟨Nat.zero_le _,rfl,by decide,by decide⟩ rfl ?_;rintro⟨i,n⟩ ⟨hi,ha,h0,h1⟩;simp only at hi ha h0 h1;simp only[go_sem];refine⟨fun h=>⟨h,by decide,(i+1,(31*n+((t.getD i 0).toNat:Int)).tmod 1000003),⟨h,by rw[<-ha,E4 h],?_,?_⟩,by show t.length-(i+1)<t.length-i;omega,?_⟩,fun h=>by rw[show i=t.length by omega,List.drop_length] at ha;rw[<-ha];rfl⟩
 ·have:=(t.getD i 0).toNat_lt
  show 0<=Int.tmod _ _;rw[Int.tmod_eq_emod_of_nonneg (by omega)];omega
 ·have:=(t.getD i 0).toNat_lt
  show Int.tmod _ _<=_;rw[Int.tmod_eq_emod_of_nonneg (by omega)];omega
 ·have:=(t.getD i 0).toNat_lt
  rw[aL h hl,wrap_small (n:=31*n) (by omega) (by omega),wrap_small (n:=((t.getD i 0).toNat:Int)) (by omega) (by omega),wrap_small (by omega) (by omega)]
def DF:List Nat:=[0,2,3,4]
def L7:Sl:=ah Tryz.types Tryz.f96 DF []
theorem Vx:aC Tryz.prog Tryz.f96 DF L7 1=true:=by decide +kernel
theorem Y4(t:List UInt8):aw Tryz.prog 96 [.v (.str t)] (.int .i64 (gi 7 t)):=by
 refine eZ fun hw=>?_
 simp only[dp,D.dG] at hw;have hl:t.length<=maxLen:=hw.1;refine aK Tryz.func96 Vx ?_;unfold L7 ah DF;simp only[go_sem];refine aE [] (fun(p:Nat×Int)=>[(2,.int .i64 p.2),(3,.int .i64 p.1)]) (fun p=>p.1<=t.length/\gi p.2 (t.drop p.1)=gi 7 t/\0<=p.2/\p.2<=1000003) (fun p=>t.length-p.1) (0,7) (by simp only[go_sem];rfl) ⟨Nat.zero_le _,rfl,by decide,by decide⟩ rfl ?_;rintro⟨i,n⟩ ⟨hi,ha,h0,h1⟩;simp only at hi ha h0 h1;simp only[go_sem];refine⟨fun h=>⟨h,by decide,(i+1,(31*n+((t.getD i 0).toNat:Int)).tmod 1000003),⟨h,by rw[<-ha,E4 h],?_,?_⟩,by show t.length-(i+1)<t.length-i;omega,?_⟩,fun h=>by rw[show i=t.length by omega,List.drop_length] at ha;rw[<-ha];rfl⟩
 ·have:=(t.getD i 0).toNat_lt
  show 0<=Int.tmod _ _;rw[Int.tmod_eq_emod_of_nonneg (by omega)];omega
 ·have:=(t.getD i 0).toNat_lt
  show Int.tmod _ _<=_;rw[Int.tmod_eq_emod_of_nonneg (by omega)];omega
 ·have:=(t.getD i 0).toNat_lt
  rw[aL h hl,wrap_small (n:=31*n) (by omega) (by omega),wrap_small (n:=((t.getD i 0).toNat:Int)) (by omega) (by omega),wrap_small (by omega) (by omega)]
end Go.D3
