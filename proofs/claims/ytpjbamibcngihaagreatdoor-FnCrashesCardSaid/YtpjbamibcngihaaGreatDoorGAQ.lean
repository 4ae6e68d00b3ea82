/- CONTRACTS: checks of texts, both sides. -/
import Derived.Test.YtpjbamibcngihaaGreatDoorGAP
namespace Go.D3
open Go
set_option maxHeartbeats 4000000
set_option maxRecDepth 100000
set_option maxHeartbeats 2000000
theorem VS{mp:List (List Int)}{e i:Nat}{v:Int}:D.slice (ints []) ((mp.map ints).set e ((ae (D.int .i64) 0 (mp.getD e [])).eM i 0 (.int .i64 v)))=aI (mp.set e ((mp.getD e []).set i v)):=by
 have e1:(ae (D.int .i64) 0 (mp.getD e [])).eM i 0 (.int .i64 v)=ae (D.int .i64) 0 ((mp.getD e []).set i v):=by
  unfold ae;rw[List.map_set];show D.slice _ (List.set _ _ (dJ _ 0 _))=_;congr 2;rw[List.getD_eq_getElem?_getD,List.getElem?_map];cases(mp.getD e [])[i]?<;>rfl
 rw[e1];exact xV (f:=ints) (d:=[]) (l:=mp) (i:=e) (x:=(mp.getD e []).set i v)
def B4:List Nat:=[0,1,2,6,7,3,4,5,8,9]
def J2:Sl:=ak Go.Proofs.Tryz.types Go.Proofs.Tryz.f68 B4 []
theorem Sk:aF Go.Proofs.Tryz.prog Go.Proofs.Tryz.f68 B4 J2 3=true:=by decide +kernel
theorem H2(s:aa)(d:af)(c:ah)(hs:cQ s)(hd:br s d):aC Go.Proofs.Tryz.prog 68 [.v (aa.d s),.v (af.d d),.v (ah.d c)] (if d.can s c=true then .au [af.d (d.app s c),.bool true] else .au [af.d af.zero,.bool false]):=by
 obtain⟨m1,m2⟩:=hd.small hs;have hnd:=hd.nd;have hmp:=hd.mp;have n0:=hs.n0;have n8:=hs.n8;have f8:=hs.f8;have hto:=hs.to;have hw1:IntKind.i64.wrap (s.nd-1)=s.nd-1:=qk (by omega) (by omega);have hw2:IntKind.i64.wrap ((s.fr.length:Int)-1)=(s.fr.length:Int)-1:=qk (by omega) (by omega);refine aQ Go.Proofs.Tryz.func68 Sk ?_;unfold J2 ak B4;simp only[go_sem];refine av (iX d.sz m1) rfl (.inl (bZ _)) ?_;simp only[go_sem];refine av (HU d.mp m2) rfl (.inl (ff _)) ?_;simp only[go_sem];rw[hw1];refine bt (fun _=>oA _ _ _) rfl (fun h=>h) (.inl rfl) ?_;simp only[go_sem];have hin:aP c.fi 0 (s.nd-1)=true->0<=c.fi/\c.fi<d.sz.length:=by unfold aP;simp;omega
 have h16:aP c.fi 0 (s.nd-1)=true->(decide (d.sz.getD c.fi.toNat 0<16))=!(d.sz.getD c.fi.toNat 0 == 16):=fun h=>by
  have:=hin h;have:=hd.eH c.fi.toNat (by omega);rw[Bool.eq_iff_iff];simp only[decide_eq_true_eq,Bool.not_eq_true',beq_eq_false_iff_ne];omega
 refine⟨fun h=>⟨h,hin (by rw[Bool.and_eq_true] at h;exact h.2)⟩,fun h=>?_,fun h=>?_⟩
 ·rw[Bool.and_eq_true,Bool.and_eq_true,Bool.and_eq_true,Bool.and_eq_true] at h
  obtain⟨⟨⟨⟨a1,a2⟩,a3⟩,a4⟩,a5⟩:=h;have hk:c.kd=1:=by simpa using a1
  have hc:d.can s c=true:=by
   unfold af.can ah.okB;rw[if_pos hk,if_pos hk,a2,a3,a4,<-h16 a4,a5];rfl
  rw[if_pos hc];unfold af.app;rw[if_pos hk];have hi:=hin a4;have hsz:=hd.eH c.fi.toNat (by omega);rw[decide_eq_true_eq] at a5;refine⟨hi,hi,by omega,?_⟩;rw[wrap_small (by omega) (by omega)];refine aE [] (fun(k:Nat)=>[(9,.int .i64 k),(8,.box [.o (ints (d.sz.set c.fi.toNat (d.sz.getD c.fi.toNat 0+1))),.o (aI (fu d.mp (eD s.fr c.fi k)))])]) (fun k=>k<=s.fr.length) (fun k=>s.fr.length-k) 0 (by simp only[go_sem];rfl) (Nat.zero_le _) rfl ?_;intro k hkk;simp only[go_sem];have hkl:=hd.mA hs k;have hal:(fu d.mp (eD s.fr c.fi k)).length=d.mp.length:=oS;have hgk:(fu d.mp (eD s.fr c.fi k)).getD k []=d.mp.getD k []:=by rw[sF (by omega),if_neg (fun hh=>Nat.lt_irrefl _ hh.1)]
  refine⟨fun h1=>⟨h1,fun h3=>⟨⟨by omega,av (iX (d.mp.getD k []) (by omega)) rfl (.inl (bZ _)) ?_⟩,by omega,av (iX (d.mp.getD k []) (by omega)) rfl (.inl (bZ _)) ?_⟩,fun h3=>⟨k+1,h1,by omega,?_⟩⟩,fun h1=>by rw[show k=s.fr.length by omega]⟩
  all_goals try(
   simp only[go_sem];refine⟨by omega,by omega,by omega,k+1,h1,by omega,?_⟩
   rw[rz,if_pos (by simpa using h3),v7,Int.toNat_natCast,hgk,aM h1 (by simp only[maxLen];omega)])
  ·rw[rz,if_neg (by simpa using h3),List.append_nil,aM h1 (by simp only[maxLen];omega)]
 ·rw[hw2]
  refine bt (fun _=>oA _ _ _) rfl (fun h=>h) (.inl rfl) ?_;simp only[go_sem];have hin2:aP c.fi 0 ((s.fr.length:Int)-1)=true->0<=c.fi/\c.fi<s.fr.length:=by unfold aP;simp;omega
  have neg:d.can s c=false->D.au [D.agg [ae (D.int .i64) 0 [],ae ints [] []],D.bool false]=if d.can s c=true then D.au [D.agg [ints (d.app s c).sz,aI (d.app s c).mp],D.bool true] else D.au [D.agg [ints af.zero.sz,aI af.zero.mp],D.bool false]:=fun hc=>by rw[if_neg (by rw[hc];simp)];rfl
  have hk1:c.kd=1->d.can s c=false:=fun hk=>by
   unfold af.can ah.okB;rw[if_pos hk,if_pos hk];rw[show(c.kd == 1)=true by rw[hk];rfl,Bool.true_and] at h;cases a4:aP c.fi 0 (s.nd-1) with
   | false=>simp
   | true =>
    rw[a4,h16 a4] at h;rw[Bool.true_and];rw[Bool.and_true] at h;exact h
  have hcan:¬c.kd=1->d.can s c=((c.kd == 2)&&(aP c.fi 0 ((s.fr.length:Int)-1)&&aP c.se 0 (d.sz.getD (s.fr.getD c.fi.toNat 0).toNat 0-1)&&aP c.th 0 (d.sz.getD (s.to.getD c.fi.toNat 0).toNat 0-1))):=fun hk=>by
   unfold af.can ah.okB;rw[if_neg hk,if_neg hk]
  have hszb:∀k,-1<=d.sz.getD k 0-1/\d.sz.getD k 0<=16:=fun k=>by
   by_cases hkk:k<d.sz.length
   ·have:=hd.eH k hkk;omega
   ·rw[List.getD_eq_getElem?_getD,List.getElem?_eq_none (by omega)];simp
  have hwr:∀k,IntKind.i64.wrap (d.sz.getD k 0-1)=d.sz.getD k 0-1:=fun k=>by have:=hszb k;exact qk (by omega) (by omega)
  refine⟨fun h2=>?_,fun h2=>neg ?_⟩
  ·rw[Bool.and_eq_true] at h2
   obtain⟨b1,b2⟩:=h2;have hk2:c.kd=2:=by simpa using b1
   have hi:=hin2 b2;have hfi:=ew hs.fr (show c.fi.toNat<s.fr.length by omega);have hti:=ew hs.qe (show c.fi.toNat<s.to.length by omega);rw[hwr];refine⟨hi,by omega,av (oA _ _ _) rfl (.inl rfl) ?_⟩;simp only[go_sem];rw[hwr];refine⟨fun h=>⟨h,by omega⟩,fun h=>⟨h,by omega⟩,bt (fun _=>oA _ _ _) rfl (fun h=>h) (.inl rfl) ?_⟩;simp only[go_sem];have hk:¬c.kd=1:=by omega
   have hcan:=hcan hk;rw[b1,b2,Bool.true_and,Bool.true_and] at hcan;refine⟨fun h=>by simpa using h,fun h3=>neg ?_,fun h3=>?_⟩
   ·rw[hcan]
    rw[Bool.or_eq_true,Bool.not_eq_true',Bool.not_eq_true'] at h3;rw[Bool.and_eq_false_iff];exact h3
   ·rw[Bool.or_eq_false_iff,Bool.not_eq_false',Bool.not_eq_false'] at h3
    have hc:d.can s c=true:=by rw[hcan,h3.1,h3.2];rfl
    have i2 : 0<=c.se/\c.se<(d.mp.getD c.fi.toNat []).length:=by
     have:=hd.len c.fi.toNat (by omega);have c2:=h3.1;unfold aP at c2;simp only[Bool.and_eq_true,decide_eq_true_eq] at c2;omega
    rw[if_pos hc];unfold af.app;rw[if_neg hk];refine⟨⟨by omega,by omega⟩,i2,⟨by omega,by omega⟩,?_⟩;rw[VS]
  ·by_cases hk:c.kd=1
   ·exact hk1 hk
   ·rw[hcan hk,<-Bool.and_assoc,<-Bool.and_assoc,h2];rfl
end Go.D3
namespace Go.D3
open Go
set_option maxRecDepth 100000
def fK:Int->List UInt8->Int
 | n,[]=>n
 | n,b::r=>fK ((31*n+(b.toNat:Int)).tmod 1000003) r
theorem DA{n:Int}{t:List UInt8}{i:Nat}(h:i<t.length):fK n (t.drop i)=fK ((31*n+((t.getD i 0).toNat:Int)).tmod 1000003) (t.drop (i+1)):=by
 rw[List.drop_eq_getElem_cons h,fK,aS h]
def AF:List Nat:=[0,2,3,4]
def ID:Sl:=ak Go.Proofs.Tryz.types Go.Proofs.Tryz.f67 AF []
theorem QK:aF Go.Proofs.Tryz.prog Go.Proofs.Tryz.f67 AF ID 1=true:=by decide +kernel
theorem HC(t:List UInt8):aC Go.Proofs.Tryz.prog 67 [.v (.str t)] (.int .i64 (fK 7 t)):=by
 refine ei fun hw=>?_
 simp only[dc,D.du] at hw;have hl:t.length<=maxLen:=hw.1;refine aQ Go.Proofs.Tryz.func67 QK ?_;unfold ID ak AF;simp only[go_sem];refine aE [] (fun(p:Nat×Int)=>[(2,.int .i64 p.2),(3,.int .i64 p.1)]) (fun p=>p.1<=t.length/\fK p.2 (t.drop p.1)=fK 7 t/\0<=p.2/\p.2<=1000003) (fun p=>t.length-p.1) (0,7) (by simp only[go_sem];rfl) ⟨Nat.zero_le _,rfl,by decide,by decide⟩ rfl ?_;rintro⟨i,n⟩ ⟨hi,ha,h0,h1⟩;simp only at hi ha h0 h1;simp only[go_sem];refine⟨fun h=>⟨h,by decide,(i+1,(31*n+((t.getD i 0).toNat:Int)).tmod 1000003),⟨h,by rw[<-ha,DA h],?_,?_⟩,by show t.length-(i+1)<t.length-i;omega,?_⟩,fun h=>by rw[show i=t.length by omega,List.drop_length] at ha;rw[<-ha];rfl⟩
 ·have:=(t.getD i 0).toNat_lt
  show 0<=Int.tmod _ _;rw[Int.tmod_eq_emod_of_nonneg (by omega)];omega
 ·have:=(t.getD i 0).toNat_lt
  show Int.tmod _ _<=_;rw[Int.tmod_eq_emod_of_nonneg (by omega)];omega
 ·have:=(t.getD i 0).toNat_lt
  rw[aM h hl,wrap_small (n:=31*n) (by omega) (by omega),wrap_small (n:=((t.getD i 0).toNat:Int)) (by omega) (by omega),wrap_small (by omega) (by omega)]
def B5:List Nat:=[0,2,3,4]
def J3:Sl:=ak Go.Proofs.Tryz.types Go.Proofs.Tryz.f56 B5 []
theorem Sm:aF Go.Proofs.Tryz.prog Go.Proofs.Tryz.f56 B5 J3 1=true:=by decide +kernel
theorem H3(t:List UInt8):aC Go.Proofs.Tryz.prog 56 [.v (.str t)] (.int .i64 (fK 7 t)):=by
 refine ei fun hw=>?_
 simp only[dc,D.du] at hw;have hl:t.length<=maxLen:=hw.1;refine aQ Go.Proofs.Tryz.func56 Sm ?_;unfold J3 ak B5;simp only[go_sem];refine aE [] (fun(p:Nat×Int)=>[(2,.int .i64 p.2),(3,.int .i64 p.1)]) (fun p=>p.1<=t.length/\fK p.2 (t.drop p.1)=fK 7 t/\0<=p.2/\p.2<=1000003) (fun p=>t.length-p.1) (0,7) (by simp only[go_sem];rfl) ⟨Nat.zero_le _,rfl,by decide,by decide⟩ rfl ?_;rintro⟨i,n⟩ ⟨hi,ha,h0,h1⟩;simp only at hi ha h0 h1;simp only[go_sem];refine⟨fun h=>⟨h,by decide,(i+1,(31*n+((t.getD i 0).toNat:Int)).tmod 1000003),⟨h,by rw[<-ha,DA h],?_,?_⟩,by show t.length-(i+1)<t.length-i;omega,?_⟩,fun h=>by rw[show i=t.length by omega,List.drop_length] at ha;rw[<-ha];rfl⟩
 ·have:=(t.getD i 0).toNat_lt
  show 0<=Int.tmod _ _;rw[Int.tmod_eq_emod_of_nonneg (by omega)];omega
 ·have:=(t.getD i 0).toNat_lt
  show Int.tmod _ _<=_;rw[Int.tmod_eq_emod_of_nonneg (by omega)];omega
 ·have:=(t.getD i 0).toNat_lt
  rw[aM h hl,wrap_small (n:=31*n) (by omega) (by omega),wrap_small (n:=((t.getD i 0).toNat:Int)) (by omega) (by omega),wrap_small (by omega) (by omega)]
end Go.D3
