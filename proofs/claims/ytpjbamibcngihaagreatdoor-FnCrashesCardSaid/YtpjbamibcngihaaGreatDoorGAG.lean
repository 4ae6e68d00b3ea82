/- CONTRACTS: transactions, the program's side. -/
import Derived.Test.YtpjbamibcngihaaGreatDoorGAF
namespace Go.D3
open Go
set_option maxHeartbeats 4000000
set_option maxRecDepth 100000
def af.bx(d:af):D:=.box [.o (ints d.sz),.o (aI d.mp)]
theorem qk{n:Int}(h0 : -4611686018427387900<=n)(h1:n<=4611686018427387900):IntKind.i64.wrap (n-1)=n-1:=wrap_small (by omega) (by omega)
theorem CG:∀{l:List Int}{mp:List (List Int)}{b:Nat},(∀e,(mp.getD e []).length<=b)->∀e,((fu mp l).getD e []).length<=b+l.length
 | [],mp,b,h,e=>h e
 | x::l,mp,b,h,e=>by
  have:=CG (l:=l) (mp:=mp.set x.toNat (mp.getD x.toNat []++[-1])) (b:=b+1) (fun e=>by
   by_cases hx:x.toNat<mp.length
   ·rw[jv hx]
    split
    ·rw[List.length_append];have:=h x.toNat;show _+1<=_;omega
    ·have:=h e;omega
   ·rw[List.set_eq_of_length_le (by omega)];have:=h e;omega) e
  show((fu _ l).getD e []).length<=_;simp only[List.length_cons];omega
theorem SY{fr:List Int}{x:Int}{n j:Nat}(hj:j<(eD fr x n).length) : 0<=(eD fr x n).getD j 0/\(eD fr x n).getD j 0<n:=by
 have hm:(eD fr x n).getD j 0∈eD fr x n:=by rw[aS hj];exact List.getElem_mem _
 generalize(eD fr x n).getD j 0=v at hm;unfold eD at hm;obtain⟨e,he,h3⟩:=List.mem_map.1 hm;have:=List.mem_range.1 (List.mem_filter.1 he).1;omega
theorem br.mA{s:aa}{d:af}(hs:cQ s)(h:br s d)(e:Nat):(d.mp.getD e []).length<=16:=by
 by_cases he:e<d.mp.length
 ·have h1:=h.len e he
  have h2:=ew hs.fr (show e<s.fr.length by rw[<-h.mp];exact he);have h3:=h.eH (s.fr.getD e 0).toNat (by have:=h.nd;omega);omega
 ·rw[List.getD_eq_getElem?_getD,List.getElem?_eq_none (by omega)];simp
def AJ:List Nat:=[0,1,2,6,5,8,48,49,50]
def IH:Sl:=ak Go.Proofs.Tryz.types Go.Proofs.Tryz.f64 AJ []
theorem QO:aF Go.Proofs.Tryz.prog Go.Proofs.Tryz.f64 AJ IH 3=true:=by decide +kernel
theorem Up(s:aa)(d:af)(c:ah)(hs:cQ s)(hd:br s d) :
  fV Go.Proofs.Tryz.prog 64 [.aw 0 [(0,0)],.ptr s.cells,ah.d c] [d.bx] (.bool (d.can s c)) [(if d.can s c=true then d.app s c else d).bx]:=by
 have hnd:=hd.nd;have hmp:=hd.mp;have n0:=hs.n0;have n8:=hs.n8;have f8:=hs.f8;have hto:=hs.to;have hw1:IntKind.i64.wrap (s.nd-1)=s.nd-1:=qk (by omega) (by omega);have hw2:IntKind.i64.wrap ((s.fr.length:Int)-1)=(s.fr.length:Int)-1:=qk (by omega) (by omega);unfold af.bx;refine mN .tree Go.Proofs.Tryz.func64 QO ?_;unfold IH ak AJ;simp only[go_sem];refine av (Ug c) rfl (.inl rfl) ?_;simp only[go_sem]
 have neg:d.can s c=false->false=d.can s c/\D.box [.o (ints d.sz),.o (aI d.mp)]=D.box [.o (ints (if d.can s c=true then d.app s c else d).sz),.o (aI (if d.can s c=true then d.app s c else d).mp)]:=fun h=>by
  rw[h];exact⟨rfl,rfl⟩
 refine⟨fun h=>neg (by unfold af.can;rw[Bool.not_eq_true'] at h;rw[h];rfl),fun h=>⟨fun hk=>?_,fun hk=>?_⟩⟩
 ·rw[Bool.not_eq_false'] at h
  have hcan:d.can s c=(aP c.fi 0 (s.nd-1)&&!(d.sz.getD c.fi.toNat 0 == 16)):=by unfold af.can;rw[h,if_pos hk,Bool.true_and]
  rw[hw1];refine av (lD _ _ _) rfl (.inl rfl) ?_;simp only[go_sem];have hin:aP c.fi 0 (s.nd-1)=true->0<=c.fi/\c.fi<d.sz.length:=by unfold aP;simp;omega
  refine⟨fun h2=>⟨h2,hin h2⟩,fun h2=>by simpa using h2,fun h2=>neg ?_,fun h2=>?_⟩
  ·rw[hcan]
   rw[Bool.or_eq_true,Bool.not_eq_true'] at h2;rw[Bool.and_eq_false_iff,Bool.not_eq_false'];exact h2
  ·have hc:d.can s c=true:=by
    rw[hcan];rw[Bool.or_eq_false_iff,Bool.not_eq_false'] at h2;rw[h2.1,h2.2];rfl
   rw[Bool.or_eq_false_iff,Bool.not_eq_false'] at h2;obtain⟨i0,i1⟩:=hin h2.1;have hsz:=hd.eH c.fi.toNat (by omega);refine⟨⟨i0,i1⟩,⟨i0,i1⟩,by omega,av (Un s c.fi f8) rfl (.inl (bZ _)) ?_⟩;rw[hc,if_pos rfl];unfold af.app;rw[if_pos hk,wrap_small (by omega) (by omega)];generalize hL:eD s.fr c.fi s.fr.length=L
   have hLr:∀j,j<L.length->0<=L.getD j 0/\L.getD j 0<d.mp.length:=by
    intro j hj;rw[<-hL] at hj|-
    have:=SY hj;omega
   have hLl:L.length<=8:=by rw[<-hL];exact Nat.le_trans Gu f8
   simp only[go_sem];refine aE [5] (fun(j:Nat)=>[(8,.int .i64 j),(9,.box [.o (ints (d.sz.set c.fi.toNat (d.sz.getD c.fi.toNat 0+1))),.o (aI (fu d.mp (L.take j)))])]) (fun j=>j<=L.length) (fun j=>L.length-j) 0 (by simp only[go_sem];rfl) (Nat.zero_le _) rfl ?_;intro j hj;simp only[go_sem];refine⟨fun h3=>?_,fun h3=>by rw[List.take_of_length_le (by omega)]⟩;obtain⟨l0,l1⟩:=hLr j h3;have hal:(fu d.mp (L.take j)).length=d.mp.length:=oS
   have hbd:((fu d.mp (L.take j)).getD (L.getD j 0).toNat []).length<=16+j:=by
    have:=CG (l:=L.take j) (mp:=d.mp) (b:=16) (hd.mA hs) (L.getD j 0).toNat;rw[List.length_take] at this;omega
   refine⟨h3,⟨l0,by omega⟩,by omega,⟨l0,by simp only[List.length_set,List.length_map];omega,?_⟩,by simp only[List.length_set,List.length_map];omega,j+1,h3,by omega,?_⟩
   ·rw[jv (by simp only[List.length_map];omega),if_pos rfl];rfl
   ·rw[VT rfl,aM h3 (by simp only[maxLen];omega),cH h3 0,v7]
    unfold aI ae;rw[List.map_set];rfl
 ·rw[Bool.not_eq_false'] at h
  have hk':¬c.kd=1:=by simpa using hk
  rw[hw2];refine av (lD _ _ _) rfl (.inl rfl) ?_;simp only[go_sem];have hin:aP c.fi 0 ((s.fr.length:Int)-1)=true->0<=c.fi/\c.fi<s.fr.length:=by unfold aP;simp;omega
  have hcan:d.can s c=(aP c.fi 0 ((s.fr.length:Int)-1)&&aP c.se 0 (d.sz.getD (s.fr.getD c.fi.toNat 0).toNat 0-1)&&aP c.th 0 (d.sz.getD (s.to.getD c.fi.toNat 0).toNat 0-1)):=by
   unfold af.can;rw[h,if_neg hk',Bool.true_and]
  have hf:aP c.fi 0 ((s.fr.length:Int)-1)=true->0<=s.fr.getD c.fi.toNat 0/\s.fr.getD c.fi.toNat 0<d.sz.length:=fun h2=>by
   have:=hin h2;have:=ew hs.fr (show c.fi.toNat<s.fr.length by omega);omega
  have ht:aP c.fi 0 ((s.fr.length:Int)-1)=true->0<=s.to.getD c.fi.toNat 0/\s.to.getD c.fi.toNat 0<d.sz.length:=fun h2=>by
   have:=hin h2;have:=ew hs.qe (show c.fi.toNat<s.to.length by omega);omega
  have hszb:∀k,-1<=d.sz.getD k 0-1/\d.sz.getD k 0<=16:=fun k=>by
   by_cases hkk:k<d.sz.length
   ·have:=hd.eH k hkk;omega
   ·rw[List.getD_eq_getElem?_getD,List.getElem?_eq_none (by omega)];simp
  have hwr:∀k,IntKind.i64.wrap (d.sz.getD k 0-1)=d.sz.getD k 0-1:=fun k=>by have:=hszb k;exact qk (by omega) (by omega)
  rw[hwr];refine⟨fun h2=>⟨h2,hin h2⟩,fun h2=>⟨h2,hf h2⟩,bt (fun _=>lD _ _ _) rfl (fun h=>h) (.inl rfl) ?_⟩;simp only[go_sem];rw[hwr];refine⟨fun h2=>by simpa using h2,fun h2=>⟨h2,?_⟩,fun h2=>⟨h2,ht (by rw[Bool.and_eq_true] at h2;exact h2.1)⟩,bt (fun _=>lD _ _ _) rfl (fun h=>h) (.inl rfl) ?_⟩
  ·rw[Bool.and_eq_true] at h2
   have:=hin h2.1;omega
  simp only[go_sem];refine⟨(fun h=>by simp only[Bool.or_eq_false_iff,Bool.and_eq_true,Bool.not_eq_false'] at h|-;exact h),fun h2=>neg ?_,fun h2=>?_⟩
  ·rw[hcan]
   generalize aP c.fi 0 ((s.fr.length:Int)-1)=x1 at h2;generalize aP c.se 0 (d.sz.getD (s.fr.getD c.fi.toNat 0).toNat 0-1)=x2 at h2;generalize aP c.th 0 (d.sz.getD (s.to.getD c.fi.toNat 0).toNat 0-1)=x3 at h2;cases x1<;>cases x2<;>cases x3<;>first | rfl | cases h2
  ·have hc:d.can s c=true:=by
    rw[hcan];generalize aP c.fi 0 ((s.fr.length:Int)-1)=x1 at h2;generalize aP c.se 0 (d.sz.getD (s.fr.getD c.fi.toNat 0).toNat 0-1)=x2 at h2;generalize aP c.th 0 (d.sz.getD (s.to.getD c.fi.toNat 0).toNat 0-1)=x3 at h2;cases x1<;>cases x2<;>cases x3<;>first | rfl | cases h2
   have hc2:=hc;rw[hcan,Bool.and_eq_true,Bool.and_eq_true] at hc2;obtain⟨⟨c1,c2⟩,c3⟩:=hc2;have i1:=hin c1
   have i2 : 0<=c.se/\c.se<(d.mp.getD c.fi.toNat []).length:=by
    have:=hd.len c.fi.toNat (by omega);unfold aP at c2;simp only[Bool.and_eq_true,decide_eq_true_eq] at c2;omega
   rw[hc,if_pos rfl];unfold af.app;rw[if_neg hk'];refine⟨⟨by omega,by omega⟩,i2,⟨by omega,by omega⟩,rfl,?_⟩
   have e1:(ae (D.int .i64) 0 (d.mp.getD c.fi.toNat [])).eM c.se.toNat 0 (D.int .i64 c.th)=ae (D.int .i64) 0 ((d.mp.getD c.fi.toNat []).set c.se.toNat c.th):=by
    unfold ae;rw[List.map_set];show D.slice _ (List.set _ _ (dJ _ 0 _))=_;congr 2;rw[List.getD_eq_getElem?_getD,List.getElem?_map];cases(d.mp.getD c.fi.toNat [])[c.se.toNat]?<;>rfl
   rw[e1];exact congrArg (fun x=>D.box [.o (ints d.sz),.o x]) (xV (f:=ints) (d:=[]) (l:=d.mp) (i:=c.fi.toNat) (x:=(d.mp.getD c.fi.toNat []).set c.se.toNat c.th))
end Go.D3
namespace Go.D3
open Go
set_option maxRecDepth 100000
theorem rR{s:aa}{sz:List Int}{mp:List (List Int)}(h:s.gK sz mp=true):(sz.length:Int)=s.nd/\bV 17 sz=true/\mp.length=s.fr.length /\
  ∀e,e<mp.length->((mp.getD e []).length:Int)=sz.getD (s.fr.getD e 0).toNat 0/\bV (sz.getD (s.to.getD e 0).toNat 0) (mp.getD e [])=true:=by
 unfold aa.gK at h;simp only[Bool.and_eq_true,beq_iff_eq,List.all_eq_true,List.mem_range] at h;obtain⟨⟨⟨h1,h2⟩,h3⟩,h4⟩:=h;exact⟨h1,h2,h3,fun e he=>by have:=h4 e he;unfold aa.kn at this;simpa using this⟩
theorem xM{s:aa}{sz:List Int}{mp:List (List Int)}(hr:s.gK sz mp=true):∀{l:List Int}{x r y:Int},bG s.fr s.to x l=some y->0<=r->r<sz.getD x.toNat 0->jD mp r l
 | [],_,_,_,_,_,_=>trivial
 | e::l,x,r,y,hf,h0,h1=>by
  obtain⟨_,_,hl,hm⟩:=rR hr;rw[bG] at hf;by_cases hc:(aP e 0 ((s.fr.length:Int)-1)&&s.fr.getD e.toNat 0 == x)=true
  ·rw[if_pos hc] at hf
   simp only[Bool.and_eq_true,beq_iff_eq,aP,decide_eq_true_eq] at hc;obtain⟨hlen,hmap⟩:=hm e.toNat (by omega);rw[hc.2] at hlen;have hv:=ew hmap (i:=r.toNat) (by omega);exact⟨by omega,⟨h0,by omega⟩,xM hr hf hv.1 hv.2⟩
  ·rw[if_neg hc] at hf;cases hf
theorem s8{s:aa}{p:U}{y:Int}(h:s.aU p=some y):(0<=p.st/\p.st<s.nd)/\p.ed.length<=6/\bG s.fr s.to p.st p.ed=some y:=by
 unfold aa.aU at h;split at h
 ·rename_i hc
  simp only[Bool.and_eq_true,aP,decide_eq_true_eq] at hc;exact⟨⟨hc.1.1,by omega⟩,hc.2,h⟩
 ·cases h
theorem ok_eq{s:aa}(h:s.ok=true){i:Nat}(hi:i<s.lf.length):∃y,s.aU (s.lf.getD i U.zero)=some y/\s.aU (s.rt.getD i U.zero)=some y/\(s.lf.getD i U.zero).st=(s.rt.getD i U.zero).st:=by
 unfold aa.ok at h;rw[Bool.and_eq_true] at h;have:=List.all_eq_true.1 h.2 i (List.mem_range.2 hi);unfold aa.qP at this;cases hp:s.aU (s.lf.getD i U.zero) with
 | none=>rw[hp] at this;cases this
 | some a =>
  cases hq:s.aU (s.rt.getD i U.zero) with
  | none=>rw[hp,hq] at this;cases this
  | some b =>
   rw[hp,hq] at this;simp only[Bool.and_eq_true,beq_iff_eq] at this;exact⟨a,rfl,by rw[this.2],this.1⟩
theorem dM{s:aa}(h:s.ok=true):s.fP=true/\s.lf.length<=8/\s.rt.length=s.lf.length:=by
 unfold aa.ok aa.iw at h;simp only[Bool.and_eq_true,decide_eq_true_eq] at h;exact⟨h.1.1,h.1.2.1,h.1.2.2⟩
theorem wD{s:aa}{sz:List Int}{mp:List (List Int)}(h:s.ok=true)(hr:s.gK sz mp=true):s.sT sz mp:=by
 refine⟨(dM h).2.2,fun i hi=>?_⟩;obtain⟨y,h1,h2,h3⟩:=ok_eq h hi;obtain⟨a1,a2,a3⟩:=s8 h1;obtain⟨b1,b2,b3⟩:=s8 h2;obtain⟨c1,_⟩:=rR hr;exact⟨by omega,fun r hlt=>⟨xM hr a3 (by omega) hlt,xM hr b3 (by omega) (by rw[<-h3];exact hlt)⟩⟩
def af.dP(s:aa)(d:af):Bool:=s.gK d.sz d.mp&&(s.fY d.sz d.mp s.lf.length).isNone
def AL:List Nat:=[0,1,4,2,5]
def IJ:Sl:=ak Go.Proofs.Tryz.types Go.Proofs.Tryz.f46 AL []
theorem QQ:aF Go.Proofs.Tryz.prog Go.Proofs.Tryz.f46 AL IJ 2=true:=by decide +kernel
theorem HE(s:aa)(d:af)(h:s.ok=true):aC Go.Proofs.Tryz.prog 46 [.v (af.d d),.v (.ptr s.cells)] (.bool (d.dP s)):=by
 have hs1:=(dM h).1;unfold af.dP;refine aQ Go.Proofs.Tryz.func46 QQ ?_;unfold IJ ak AL;simp only[go_sem];refine av (zo s d.sz d.mp hs1) rfl (.inl rfl) ?_;simp only[go_sem];refine⟨fun h2=>by rw[Bool.not_eq_true'] at h2;rw[h2];rfl,fun h2=>?_⟩;rw[Bool.not_eq_false'] at h2;obtain⟨_,h17,_⟩:=rR h2;refine av (HA s d.sz d.mp (wD h h2) (fun x hx=>by have:=List.all_eq_true.1 h17 x hx;simp at this;omega)) rfl (.inl (by cases s.fY d.sz d.mp s.lf.length<;>rfl)) ?_;rw[h2];cases s.fY d.sz d.mp s.lf.length with
 | none =>
  simp only[nB];simp only[go_sem]
  all_goals simp
 | some p =>
  obtain⟨i,r⟩:=p;simp only[nB];simp only[go_sem]
  all_goals simp
  all_goals omega
def af.all(s:aa):af->List ah->Option af
 | d,[]=>some d
 | d,c::r=>if d.can s c=true then af.all s (d.app s c) r else none
theorem we{s:aa}{d:af}{l:List ah}{i:Nat}(h:i<l.length):af.all s d (l.drop i)=if d.can s (l.getD i ah.zero)=true then af.all s (d.app s (l.getD i ah.zero)) (l.drop (i+1)) else none:=by
 rw[List.drop_eq_getElem_cons h,af.all,aS h]
def sH(s:aa):Option af->D
 | some d=>.au [af.d d,.bool (d.dP s)]
 | none=>.au [af.d af.zero,.bool false]
theorem br.small{s:aa}{d:af}(hs:cQ s)(h:br s d):d.sz.length<=1048576/\fM List.length d.mp<=1048576:=by
 have h1:=h.nd;have h2:=hs.n8;have h3:=hs.f8;have h4:=h.mp;refine⟨by omega,?_⟩;unfold fM
 have:∀l:List (List Int),(∀x∈l,x.length<=16)->(l.map List.length).sum<=16*l.length:=by
  intro l;induction l with
  | nil=>intro _;simp
  | cons x l ih=>intro hx;have:=ih (fun y hy=>hx y (List.mem_cons_of_mem _ hy));have:=hx x List.mem_cons_self;simp only[List.map_cons,List.sum_cons,List.length_cons];omega
 have:=this d.mp (fun x hx=>by
  obtain⟨j,hj,rfl⟩:=List.getElem_of_mem hx;have:=h.mA hs j
  rwa [aS hj] at this)
 omega
def AI:List Nat:=[0,1,2,6,7,3,8,10,13,14,15]
def IG:Sl:=ak Go.Proofs.Tryz.types Go.Proofs.Tryz.f39 AI [(0,64)]
theorem QN:aF Go.Proofs.Tryz.prog Go.Proofs.Tryz.f39 AI IG 3=true:=by decide +kernel
theorem zq(s:aa)(d:af)(l:List ah)(h:s.ok=true)(hd:br s d):aC Go.Proofs.Tryz.prog 39 [.v (af.d d),.v (.ptr s.cells),.v (ae ah.d ah.zero l)] (sH s (af.all s d l)):=by
 have hs:=eA (dM h).1;obtain⟨m1,m2⟩:=hd.small hs;refine ei fun hw=>?_
 simp only[dc,eW] at hw;have hl:l.length<=maxLen:=hw.2.2.1.1;refine aQ Go.Proofs.Tryz.func39 QN ?_;unfold IG ak AI;simp only[go_sem];refine av (Uq d m1 m2) rfl (.inl (rk _)) ?_;simp only[go_sem];refine aE [7] (fun(p:Nat×af)=>[(6,p.2.bx),(10,.int .i64 p.1)]) (fun p=>p.1<=l.length/\af.all s p.2 (l.drop p.1)=af.all s d l/\br s p.2) (fun p=>l.length-p.1) (0,d) (by simp only[go_sem];rfl) ⟨Nat.zero_le _,rfl,hd⟩ rfl ?_;rintro⟨i,e⟩ ⟨hi,ha,he⟩;simp only at hi ha he;unfold af.bx;simp only[go_sem];refine⟨fun h2=>⟨h2,?_⟩,fun h2=>?_⟩
 ·rw[we h2] at ha
  refine en [6] false (Up s e (l.getD i ah.zero) hs he) ?_;have hstep:=fun hc=>he.app (c:=l.getD i ah.zero) hs hc
  cases hc:e.can s (l.getD i ah.zero) with
  | false =>
   rw[hc,if_neg (by simp)] at ha;rw[<-ha,if_neg (by simp)];unfold af.bx;simp only[go_sem]
   all_goals rfl
  | true =>
   rw[hc,if_pos rfl] at ha;rw[if_pos rfl];have:=hstep hc;generalize e.app s (l.getD i ah.zero)=e' at ha this;unfold af.bx;simp only[go_sem];exact⟨(i+1,e'),⟨h2,ha,this⟩,by show l.length-(i+1)<l.length-i;omega,by rw[aM h2 hl]⟩
 ·rw[show i=l.length by omega,List.drop_length] at ha
  rw[<-ha];refine av (HE s e h) rfl (.inl rfl) ?_;simp only[af.all,sH];simp only[go_sem]
  all_goals rfl
end Go.D3
