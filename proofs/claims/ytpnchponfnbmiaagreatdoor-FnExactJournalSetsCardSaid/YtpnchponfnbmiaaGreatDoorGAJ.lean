/- CONTRACTS: the category of a schema with a code: the program's side, walked. -/
import Derived.Test.YtpnchponfnbmiaaGreatDoorGAE
import Derived.Test.YtpnchponfnbmiaaGreatDoorGAG
import Derived.Test.YtpnchponfnbmiaaGreatDoorGAH
import Derived.Test.YtpnchponfnbmiaaGreatDoorGAI
import Derived.Test.YtpnchponfnbmiaaGreatDoorChecked
import Derived.WalkKit
import Derived.LaidEql
import Derived.Stop.Asserts
import Derived.RowKitTokens
namespace Go.D3
open Go Proofs
set_option maxHeartbeats 4000000
set_option maxRecDepth 100000
abbrev ry(S:D)(x:bj)(Y:D):List D:=[S,.int .i64 x.c.ob,ints x.c.fr,ints x.c.to,ints x.c.aU,aF x.c.co,ints x.ed,Y]
def CG:List Nat:=[0,1,4,3,5,7,18,19,20]
def K5:Sl:=ah Tryz.types Tryz.f56 CG []
theorem Ux:aC Tryz.prog Tryz.f56 CG K5 2=true:=by decide +kernel
theorem AQ{s:aa}{x:bj}(hx:qj s x)(S Y:D){p:U}{y:Int}(hp:s.aO p=some y):aw Tryz.prog 56 [.v (.ptr (ry S x Y)),.v (U.d p)] (.int .i64 (x.arr p p.ed.length)):=by
 obtain⟨h1,h2,_⟩:=bP.1 hp;have hi:=hx.sh.aU;have ho:=hx.ob;have hco:=hx.sh.co;have hed:=hx.ed
 have he:∀i,i<p.ed.length->∃k:Nat,p.ed.getD i 0=k/\k<s.fr.length:=fun i hi=>by
  have hm:=qN hp (i:=i+1) hi;rw[bN hi 0] at hm;obtain⟨k,k1,k2,_⟩:=yI hm;exact⟨k,k1,k2⟩
 refine aK Tryz.func56 Ux ?_;unfold K5 ah CG;simp only[go_sem];refine⟨by omega,?_⟩;refine aE [5] (fun(i:Nat)=>[(4,.int .i64 (x.arr p i)),(8,.int .i64 i)]) (fun i=>i<=p.ed.length) (fun i=>p.ed.length-i) 0 (by simp only[go_sem];rfl) (Nat.zero_le _) rfl ?_;intro i hi;simp only[go_sem];refine⟨fun h3=>?_,fun h3=>?_⟩
 ·obtain⟨k,k1,k2⟩:=he i h3
  obtain⟨a1,a2,_⟩:=hx.ar k k2;obtain⟨a,m,e3,e4,_⟩:=bj.xJ hx hp i (by omega);have hr:=hx.sh.row a e4
  have hs:x.arr p (i+1)=x.c.ck (x.arr p i) (x.ed.getD (p.ed.getD i 0).toNat 0):=by
   unfold bj.arr;rw[bN h3 0,List.foldl_append];rfl
  have hge : 0<=x.ed.getD (p.ed.getD i 0).toNat 0/\x.ed.getD (p.ed.getD i 0).toNat 0<x.c.fr.length:=by
   rw[k1,Int.toNat_natCast];exact⟨a1,a2⟩
  refine⟨h3,by omega,qA (bs:=[_,_,_]) (Jw x.c (x.arr p i) (x.ed.getD (p.ed.getD i 0).toNat 0) (by omega) (by omega) hge.1 (by rw[e3,Int.toNat_natCast];omega)) rfl ⟨.inr ⟨5,_,rfl,rfl⟩,.inl rfl,.inl rfl,trivial⟩ (.inl rfl) ?_⟩;simp only[go_sem];exact⟨i+1,h3,by omega,by rw[hs,aL h3 (by simp only[maxLen];omega)];rfl⟩
 ·rw[show i=p.ed.length by omega]
def CH:List Nat:=[0,2,3,4,5,14,15,16,34,35]
def K6:Sl:=ah Tryz.types Tryz.f146 CH []
theorem Uy:aC Tryz.prog Tryz.f146 CH K6 1=true:=by decide +kernel
theorem Xv{s:aa}(h:s.ok=true){ls:List U}(hL:s.cQ ls)(h40:ls.length<=40):aw Tryz.prog 146 [.v (.ptr (ry (.ptr s.cells) (s.cP ls) (ae U.d U.zero ls)))] (.bool (s.gC (s.cP ls))):=by
 obtain⟨hk1,hlf,hrt⟩:=fj h;have hlse:(s.cP ls).ls=ls:=rfl;refine aK Tryz.func146 Uy ?_;unfold K6 ah CH;simp only[go_sem];refine qA (bs:=[_]) (XB (s.cP ls).c) rfl ⟨.inr ⟨5,_,rfl,rfl⟩,trivial⟩ (.inl rfl) ?_;simp only[go_sem];refine⟨fun hB=>?_,fun hB=>?_⟩
 ·rw[show s.gC (s.cP ls)=false from Bool.eq_false_iff.2 fun hg=>by
   unfold aa.gC at hg;simp only[Bool.and_eq_true] at hg
   rw[hg.1.1] at hB;cases hB]
 have hB:(s.cP ls).c.kr=true:=by simpa using hB
 have hx:=BB h hL hB;refine aE [2,3] (fun(f:Nat)=>[(7,.int .i64 f)]) (fun f=>f<=ls.length/\∀j,j<f->(s.cP ls).arr (ls.getD j U.zero) (ls.getD j U.zero).ed.length=j) (fun f=>ls.length-f) 0 (by simp only[go_sem];rfl) ⟨Nat.zero_le _,fun j hj=>absurd hj (Nat.not_lt_zero _)⟩ rfl ?_;rintro f ⟨hf2,hfa⟩;simp only[go_sem];refine⟨fun h7=>?_,fun h7=>?_⟩
 ·obtain⟨y,hy⟩:=hL.sp _ (dv (d:=U.zero) h7)
  refine⟨h7,an (AQ hx _ _ hy) rfl (.inl rfl) ?_⟩;simp only[go_sem];refine⟨fun hn=>?_,fun hn=>⟨f+1,⟨h7,fun j hj=>?_⟩,by omega,by rw[aL h7 (by simp only[maxLen];omega)]⟩⟩
  ·rw[show s.gC (s.cP ls)=false from Bool.eq_false_iff.2 fun hg=>by
    unfold aa.gC at hg;simp only[Bool.and_eq_true,lR,beq_iff_eq] at hg;rw[bne_iff_ne] at hn
    exact hn (hg.1.2 f h7)]
  ·by_cases hjf:j<f
   ·exact hfa j hjf
   ·obtain rfl:j=f:=by omega
    rwa [bne_eq_false_iff_eq] at hn
 obtain rfl:f=ls.length:=by omega
 refine aE [4] (fun(i:Nat)=>[(9,.int .i64 i)]) (fun i=>i<=s.lf.length/\∀j,j<i->(s.cP ls).arr (s.lf.getD j U.zero) (s.lf.getD j U.zero).ed.length=(s.cP ls).arr (s.rt.getD j U.zero) (s.rt.getD j U.zero).ed.length) (fun i=>s.lf.length-i) 0 (by simp only[go_sem];rfl) ⟨Nat.zero_le _,fun j hj=>absurd hj (Nat.not_lt_zero _)⟩ rfl ?_;rintro i ⟨hi,hia⟩;simp only[go_sem];refine⟨fun h8=>?_,fun h8=>?_⟩
 ·obtain⟨z,hp,hq,aM⟩:=ok_eq h h8
  refine⟨h8,an (AQ hx _ _ hp) rfl (.inl rfl) ?_⟩;simp only[go_sem];refine⟨by omega,an (AQ hx _ _ hq) rfl (.inl rfl) ?_⟩;simp only[go_sem];refine⟨fun hn=>?_,fun hn=>⟨i+1,⟨h8,fun j hj=>?_⟩,by omega,by rw[aL h8 (by simp only[maxLen];omega)]⟩⟩
  ·rw[show s.gC (s.cP ls)=false from Bool.eq_false_iff.2 fun hg=>by
    unfold aa.gC at hg;simp only[Bool.and_eq_true,lR,beq_iff_eq] at hg;rw[bne_iff_ne] at hn
    exact hn (hg.2 i h8)]
  ·by_cases hji:j<i
   ·exact hia j hji
   ·obtain rfl:j=i:=by omega
    rwa [bne_eq_false_iff_eq] at hn
 ·rw[show s.gC (s.cP ls)=true from ?_]
  unfold aa.gC;simp only[Bool.and_eq_true,lR,beq_iff_eq];exact⟨⟨hB,fun j hj=>hfa j hj⟩,fun j hj=>hia j (by omega)⟩
end Go.D3
namespace Go.D3
open Go Proofs
set_option maxHeartbeats 4000000
set_option maxRecDepth 100000
structure qi(s:aa)(list:List U)(cl:List Int)(K:List U)(O B:List Int)(ls:List U):Prop where
 r:kU s list cl K
 eq:ls=O.map fun c=>K.getD c.toNat U.zero
 ae:s.cQ ls
 all:∀d:Nat,d<K.length->(d:Int)∈O
 fq:∀i,i<O.length->0<=O.getD i 0/\O.getD i 0<K.length
 b:∀x,x<O.length->B.getD (O.getD x 0).toNat 0=x
 bl:B.length=K.length
theorem qi.at{s:aa}(hok:s.ok=true){list K ls:List U}{cl O B:List Int}(R:qi s list cl K O B ls){p:U}(hp:s.sp p) :
  ∃i c x:Nat,i<list.length/\list.getD i U.zero=p/\cl.getD i 0=c/\c<K.length/\B.getD c 0=x/\x<ls.length/\K.getD c U.zero=ls.getD x U.zero/\s.no ls p=x:=by
 obtain⟨y,hy⟩:=hp;obtain⟨i,hi,rfl⟩:=ff (d:=U.zero) (R.r.sh.a.a _ y hy);obtain⟨c,c1,c2,x,x1,x2,x3,x4⟩:=jr.no hok R.r.sh.a R.r.c R.r.k (O:=O) (by rw[<-R.eq];exact R.ae) (B:=B) R.b R.all hi;rw[<-R.eq] at x4;have hl:ls.length=O.length:=by rw[R.eq,List.length_map]
 refine⟨i,c,x,hi,rfl,c1,c2,x1,by omega,?_,x4⟩;rw[R.eq,mq (0:Int) x2,x3,Int.toNat_natCast]
theorem qi.ib{s:aa}{list K ls:List U}{cl O B:List Int}(R:qi s list cl K O B ls){h:Nat}(hh:h<ls.length):(ls.getD h U.zero).ed.length<6:=by
 have hl:ls.length=O.length:=by rw[R.eq,List.length_map]
 have hr:=R.fq h (by omega);rw[R.eq,mq (0:Int) (by omega)];exact R.r.ib _ (dv (by omega))
def B6:List Nat:=[0,1,2,3,4,7,8,10,25,26,27]
def Ku:Sl:=ah Tryz.types Tryz.f145 B6 []
theorem TW:aC Tryz.prog Tryz.f145 B6 Ku 5=true:=by decide +kernel
theorem Yz{s:aa}(h:s.ok=true){list K ls:List U}{cl O B:List Int}(R:qi s list cl K O B ls)(d0 d1 d2 d3 d4 d5 d6:D)(f g:Nat)(hf:f<ls.length)(hg:g<ls.length)(he:s.en (ls.getD f U.zero)=(ls.getD g U.zero).st) :
  aw Tryz.prog 145 [.v (.int .i64 f),.v (.int .i64 g),.v (.ptr [.ptr [d0,d1,d2,d3,d4,d5,d6,ae U.d U.zero ls]]),.v (.ptr [tq list cl K]),.v (.ptr [ints B])] (.int .i64 ((ls.getD g U.zero).ed.foldl (s.kR ls) f)):=by
 have hs:=gw (fj h).1;have hf8:=hs.f8;obtain⟨y,hy⟩:=R.ae.sp _ (dv (d:=U.zero) hf);obtain⟨z,hz⟩:=R.ae.sp _ (dv (d:=U.zero) hg);have hen:=qL hy;rw[he] at hen;generalize hG:ls.getD g U.zero=G at hz hen;have hG6:=(bP.1 hz).2.1;refine aK Tryz.func145 TW ?_;unfold Ku ah B6;simp only[go_sem];rw[hG];refine⟨hf,hg,?_⟩;refine aE [7] (fun(p:Nat×Nat)=>[(6,.box [.int .i64 (ls.getD p.2 U.zero).st,ints (ls.getD p.2 U.zero).ed]),(10,.int .i64 p.1)]) (fun p=>p.1<=G.ed.length/\p.2<ls.length/\(p.2:Int)=(G.ed.take p.1).foldl (s.kR ls) (f:Int)/\∃u v,s.aO (ls.getD p.2 U.zero)=some u/\bw s.fr s.to u (G.ed.drop p.1)=some v) (fun p=>G.ed.length-p.1) (0,f) (by simp only[go_sem];rfl) ⟨Nat.zero_le _,hf,rfl,y,z,hy,by rw[<-hen];exact(bP.1 hz).2.2⟩ rfl ?_;rintro⟨k,m⟩ ⟨hk,hm,hfo,u,v,hu,hv⟩;simp only at hk hm hfo hu hv;simp only[go_sem];refine⟨fun h1=>?_,fun h1=>?_⟩
 ·have hd:=vh (fr:=s.fr) (to:=s.to) (x:=u) h1
  rw[hv] at hd;split at hd
  ·rename_i hc
   simp only[aR,Bool.and_eq_true,decide_eq_true_eq,beq_iff_eq] at hc;obtain⟨k0,hek⟩:∃k0:Nat,G.ed.getD k 0=k0:=⟨(G.ed.getD k 0).toNat,by omega⟩;rw[hek,Int.toNat_natCast] at hc hd;have H6:=R.ib hm;have hadd:=o5 (p:=ls.getD m U.zero) (e:=k0) (by rw[hc.2];exact hu) (by omega) H6;obtain⟨i,c,x,i1,i2,c1,c2,x1,x2,x3,x4⟩:=R.at h ⟨_,hadd⟩;rw[<-hek] at i2 x4
   have hfo2:(x:Int)=(G.ed.take (k+1)).foldl (s.kR ls) (f:Int):=by
    rw[bN h1 0,List.foldl_append,<-hfo];show _=s.kR ls m (G.ed.getD k 0);unfold aa.kR;rw[Int.toNat_natCast,x4]
   have hnx:∃u v,s.aO (ls.getD x U.zero)=some u/\bw s.fr s.to u (G.ed.drop (k+1))=some v:=by
    refine⟨_,v,?_,hd.symm⟩;obtain⟨x',e1,e2,e3⟩:=R.ae.HM ⟨_,hadd⟩;rw[<-hek,x4] at e1;obtain rfl:x'=x:=by omega
    rw[<-(nB h e3).2.1,hadd]
   have hwk:=aL h1 (show G.ed.length<=maxLen by simp only[maxLen];omega);refine⟨h1,?_⟩
   with_reducible (repeat' apply And.intro)
   all_goals(
    refine an (kN (ls.getD m U.zero).ed (by omega)) rfl (.inl (bT _)) ?_;simp only[go_sem];refine⟨by omega,an (wH hs R.r i1 _ _ i2) rfl (.inl rfl) ?_⟩;simp only[go_sem,c1,x3]
    exact⟨by omega,(k+1,x),⟨h1,x2,hfo2,hnx⟩,by simp only;omega,by rw[hwk]⟩)
  ·cases hd
 ·obtain⟨i,c,x,i1,i2,c1,c2,x1,x2,x3,x4⟩:=R.at h ⟨_,hu⟩
  refine an (wH hs R.r i1 _ _ i2) rfl (.inl rfl) ?_;simp only[go_sem,c1,x1];have e:=R.ae.vP hm (.refl ⟨_,hu⟩);have hbl:=R.bl;refine⟨by omega,?_⟩;rw[<-x4,e,hfo,List.take_of_length_le (by omega)]
end Go.D3
namespace Go.D3
open Go Proofs
set_option maxHeartbeats 4000000
set_option maxRecDepth 100000
def gJ(fr to:List Int)(cf:Nat->Nat->Int)(f n N:Nat):List Int:=(List.range N).map fun g=>if g<n then(if to.getD f 0=fr.getD g 0 then cf f g else -1) else 0
def fI(fr to:List Int)(cf:Nat->Nat->Int)(f N:Nat):List (List Int):=(List.range N).map fun i=>if i<f then gJ fr to cf i N N else[]
theorem JV{fr to:List Int}{cf:Nat->Nat->Int}{f n N:Nat}:(gJ fr to cf f n N).length=N:=by simp[gJ]
theorem BA{fr to:List Int}{cf:Nat->Nat->Int}{f N:Nat}:(fI fr to cf f N).length=N:=by simp[fI]
theorem Zg{fr to:List Int}{cf:Nat->Nat->Int}{f N:Nat}:gJ fr to cf f 0 N=List.replicate N 0:=by
 refine List.ext_getElem (by simp[gJ]) fun i h1 h2=>?_
 simp[gJ]
theorem aaC{fr to:List Int}{cf:Nat->Nat->Int}{N:Nat}:fI fr to cf 0 N=List.replicate N []:=by
 refine List.ext_getElem (by simp[fI]) fun i h1 h2=>?_
 simp[fI]
theorem JW{fr to:List Int}{cf:Nat->Nat->Int}{f n N:Nat}{v:Int}(hv:v=if to.getD f 0=fr.getD n 0 then cf f n else -1):(gJ fr to cf f n N).set n v=gJ fr to cf f (n+1) N:=by
 refine List.ext_getElem (by simp[gJ]) fun i h1 h2=>?_
 rw[List.getElem_set];simp only[gJ,List.getElem_map,List.getElem_range];by_cases h:n=i
 ·subst h;rw[if_pos rfl,if_pos (by omega),hv]
 ·rw[if_neg h]
  by_cases h3:i<n
  ·rw[if_pos h3,if_pos (show i<n+1 by omega)]
  ·rw[if_neg h3,if_neg (show ¬i<n+1 by omega)]
theorem aaB{fr to:List Int}{cf:Nat->Nat->Int}{f N:Nat}:(fI fr to cf f N).set f (gJ fr to cf f N N)=fI fr to cf (f+1) N:=by
 refine List.ext_getElem (by simp[fI]) fun i h1 h2=>?_
 rw[List.getElem_set];simp only[fI,List.getElem_map,List.getElem_range];by_cases h:f=i
 ·subst h;rw[if_pos rfl,if_pos (by omega)]
 ·rw[if_neg h]
  by_cases h3:i<f
  ·rw[if_pos h3,if_pos (by omega)]
  ·rw[if_neg h3,if_neg (by omega)]
theorem ZP{α:Type}{l:List α}{i:Nat}{x d:α}(h:i<l.length):(l.set i x).getD i d=x:=by rw[List.getD_eq_getElem?_getD,List.getElem?_set_self h];rfl
abbrev MP(S:D)(ob:Int)(fr to aU:List Int)(co:List (List Int))(ed:List Int)(Y:D)(k:List D)(B:List Int):List D :=
 [.box [.o (.ptr [S,.int .i64 ob,ints fr,ints to,ints aU,aF co,ints ed,Y])],.box k,.box [.o (ints B)]]
def BN:List Nat:=[0,1,4,5,6,18,19,37,38]
def Ka:Sl:=ah Tryz.types Tryz.f144 BN []
theorem TD:aC Tryz.prog Tryz.f144 BN Ka 2=true:=by decide +kernel
theorem XD(S Sd Y Yd:D)(hS:S.strip=Sd)(hY:Y.strip=Yd)(ob:Int)(fr to aU:List Int)(ed B:List Int)(k:D)(hk:k.strip=k)(hkp:∃l,k=.ptr l)(fn:FuncId)(cf:Nat->Nat->Int)(hn:fr.length<=1048576)(hto:to.length=fr.length)(hb:eQ Tryz.prog fn=true)
  (hc:∀co (f g:Nat),f<fr.length->g<fr.length->to.getD f 0=fr.getD g 0->aw Tryz.prog fn [.v (.int .i64 f),.v (.int .i64 g),.v (.ptr [.ptr [Sd,.int .i64 ob,ints fr,ints to,ints aU,aF co,ints ed,Yd]]),.v (.ptr [k]),.v (.ptr [ints B])] (.int .i64 (cf f g))) :
  fK Tryz.prog 144 [.av 0 [(0,0),(0,1)],.fn fn [.av 0 [(0,0)],.av 1 [(0,0)],.av 2 [(0,0)]]] (MP S ob fr to aU [] ed Y [k] B) (.o (.al [])) (MP S ob fr to aU (fI fr to cf fr.length fr.length) ed Y [k] B):=by
 obtain⟨kl,rfl⟩:=hkp;refine rC .tree Tryz.func144 TD ?_;unfold Ka ah BN;simp only[go_sem];refine qA (bs:=[_]) (AL ⟨ob,fr,to,aU,[]⟩) rfl ⟨.inr ⟨5,_,rfl,rfl⟩,trivial⟩ (.inl rfl) ?_;simp only[go_sem];refine⟨by omega,?_⟩;refine aE [3,4,7,8] (fun(f:Nat)=>[(6,.int .i64 f),(9,.box [.o (.ptr [S,.int .i64 ob,ints fr,ints to,ints aU,aF (fI fr to cf f fr.length),ints ed,Y])])]) (fun f=>f<=fr.length) (fun f=>fr.length-f) 0 (by simp only[go_sem];rfl) (Nat.zero_le _) ?_ ?_
 ·simp only[go_sem,aaC];rfl
 intro f hf;simp only[go_sem,BA,List.length_replicate];refine⟨fun h1=>?_,fun h1=>?_⟩
 ·have htl:∀r,((fI fr to cf f fr.length).set f r).length=fr.length:=fun r=>by rw[List.length_set,BA]
  have hgr:∀r,((fI fr to cf f fr.length).set f r).getD f []=r:=fun r=>ZP (by rw[BA];exact h1)
  simp only[htl,hgr,List.length_replicate];refine⟨⟨Nat.le_refl _,by omega⟩,h1,h1,h1,?_⟩;refine aE [4] (fun(g:Nat)=>[(8,.int .i64 g),(9,.box [.o (.ptr [S,.int .i64 ob,ints fr,ints to,ints aU,aF ((fI fr to cf f fr.length).set f (gJ fr to cf f g fr.length)),ints ed,Y])])]) (fun g=>g<=fr.length) (fun g=>fr.length-g) 0 (by simp only[go_sem];rfl) (Nat.zero_le _) ?_ ?_
  ·simp only[go_sem,Zg];rfl
  intro g hg;simp only[go_sem,htl,hgr,List.set_set,JV,List.length_replicate];refine⟨fun h2=>?_,fun h2=>?_⟩
  ·have hkl:stripL kl=kl:=by injection hk
   have hwg:=aL h2 (show fr.length<=maxLen by simp only[maxLen];omega);refine⟨h1,h2,⟨h1,h2⟩,by omega,h2,fun he=>?_,fun he=>?_⟩
   ·have hcall:=hc ((fI fr to cf f fr.length).set f ((gJ fr to cf f g fr.length).set g (-1))) f g h1 h2 he
    have aM:stripL [.int .i64 f,.int .i64 g,.ptr [.ptr [S,.int .i64 ob,ints fr,ints to,ints aU,aF ((fI fr to cf f fr.length).set f ((gJ fr to cf f g fr.length).set g (-1))),ints ed,Y]],.ptr [.ptr kl],.ptr [ints B]] =
      [.int .i64 f,.int .i64 g,.ptr [.ptr [Sd,.int .i64 ob,ints fr,ints to,ints aU,aF ((fI fr to cf f fr.length).set f ((gJ fr to cf f g fr.length).set g (-1))),ints ed,Yd]],.ptr [.ptr kl],.ptr [ints B]]:=by
     simp only[stripL,D.strip,fX,Bv,hS,hY,hkl]
    have hse:=JW (fr:=fr) (to:=to) (cf:=cf) (f:=f) (n:=g) (N:=fr.length) (v:=cf f g) (by rw[if_pos he])
    with_reducible (repeat' apply And.intro)
    all_goals(first
     | exact h1
     | (refine V6 rfl aM hb hcall rfl ?_
        simp only[go_sem,htl,hgr,List.set_set,JV,List.length_set]
        with_reducible (repeat' apply And.intro)
        all_goals(first | exact h1 | exact h2 | exact⟨g+1,h2,by omega,by rw[<-hse,hwg]⟩)))
   ·exact⟨g+1,h2,by omega,by rw[JW (by rw[if_neg (beq_eq_false_iff_ne.1 he)]),hwg]⟩
  ·obtain rfl:g=fr.length:=by omega
   exact⟨f+1,h1,by omega,by rw[aaB,aL h1 (by simp only[maxLen];omega)]⟩
 ·obtain rfl:f=fr.length:=by omega
  exact⟨rfl,rfl⟩
end Go.D3
namespace Go.D3
open Go Proofs
set_option maxHeartbeats 4000000
set_option maxRecDepth 100000
theorem EC{O:List Int}(hr:∀i,i<O.length->0<=O.getD i 0/\O.getD i 0<O.length)(hn:O.Nodup):∀n,n<=O.length ->
  ((List.range n).foldl (fun o x=>o.set (O.getD x 0).toNat (x:Int)) (List.replicate O.length 0)).length=O.length/\∀x,x<n->((List.range n).foldl (fun o x=>o.set (O.getD x 0).toNat (x:Int)) (List.replicate O.length 0)).getD (O.getD x 0).toNat 0=x
 | 0,_=>⟨by simp,fun x hx=>by omega⟩
 | n+1,h=>by
  obtain⟨h1,h2⟩:=EC hr hn n (by omega);have hrn:=hr n (by omega);rw[List.range_succ,List.foldl_append];simp only[List.foldl_cons,List.foldl_nil];refine⟨by rw[List.length_set,h1],fun x hx=>?_⟩;have hrx:=hr x (by omega);rw[kP (by omega)];by_cases hxn:x=n
  ·subst hxn;rw[if_pos rfl]
  ·rw[if_neg fun e=>hxn (HP hn (show x<O.length by omega) (show n<O.length by omega) (by omega))]
   exact h2 x (by omega)
theorem Tl{n:Nat}:(bB n).Nodup:=by
 unfold bB;rw[List.nodup_iff_pairwise_ne,List.pairwise_map];exact List.pairwise_lt_range.imp fun {a b} h e=>by omega
theorem kU.le{s:aa}{list K:List U}{cl:List Int}(R:kU s list cl K):K.length<=400:=by
 have h1:=zw (Tl (n:=K.length)) (B:=cl) fun x hx=>by
  unfold bB at hx;obtain⟨c,hc,rfl⟩:=List.mem_map.1 hx;obtain⟨m,m1,m2,_⟩:=R.k.ex c (List.mem_range.1 hc);rw[<-m2];exact dv (by rw[R.c.len];exact m1)
 rw[eE,R.c.len] at h1;have:=R.sh.len;omega
theorem kU.sp{s:aa}{list K:List U}{cl:List Int}(R:kU s list cl K):∀p∈K,s.sp p:=fun p hp=>by
 obtain⟨c,hc,rfl⟩:=ff (d:=U.zero) hp;obtain⟨m,m1,_,m3⟩:=R.k.ex c hc;rw[m3];exact R.sh.a.at' m1
theorem VY{s:aa}(h:s.ok=true){list K:List U}{cl O:List Int}(R:kU s list cl K)(hp:O.Perm (bB K.length))(hs:O.Pairwise fun a b=>¬s.lt (K.getD b.toNat U.zero) (K.getD a.toNat U.zero)) :
  O.length=K.length/\(∀i,i<O.length->0<=O.getD i 0/\O.getD i 0<O.length)/\qi s list cl K O ((List.range O.length).foldl (fun o x=>o.set (O.getD x 0).toNat (x:Int)) (List.replicate O.length 0)) (O.map fun c=>K.getD c.toNat U.zero):=by
 have hl:O.length=K.length:=by rw[hp.length_eq,eE]
 have hr:∀i,i<O.length->0<=O.getD i 0/\O.getD i 0<O.length:=fun i hi=>by
  have:=hp.mem_iff.1 (dv (d:=0) hi);unfold bB at this;obtain⟨d,hd,e⟩:=List.mem_map.1 this;have:=List.mem_range.1 hd;omega
 have hn:O.Nodup:=hp.nodup_iff.2 (by
  unfold bB;rw[List.nodup_iff_pairwise_ne,List.pairwise_map]
  exact List.pairwise_lt_range.imp fun {a b} h e=>by omega)
 obtain⟨b1,b2⟩:=EC hr hn O.length (Nat.le_refl _);exact⟨hl,hr,R,rfl,jr.ae h R.sh.a R.c R.k hp hs,fun d hd=>hp.mem_iff.2 (List.mem_map.2 ⟨d,List.mem_range.2 hd,rfl⟩),fun i hi=>by have:=hr i hi;omega,b2,b1.trans hl⟩
theorem Mg{s:aa}:(D.vw (.ptr s.cells)).strip=.ptr s.cells:=by
 show D.ptr [_,(ints s.fr).strip,(ints s.to).strip,(ae U.d U.zero s.lf).strip,(ae U.d U.zero s.rt).strip]=_;rw[fX,fX,Bw,Bw];rfl
theorem SS{α β:Type}{f:α->D}{g:β->D}{l:List (α×β)}:(bI f g l).strip=bI f g l:=rfl
theorem Wb{list K:List U}{cl:List Int}:(tq list cl K).strip=tq list cl K:=by
 show D.ptr [(lU list).strip,(ints cl).strip,(ae U.d U.zero K).strip]=_;rw[SS,fX,Bw]
theorem Ww:eQ Tryz.prog 145=true:=by
 simp only[eQ,Tryz.func145];rfl
theorem aaD{s:aa}{ls:List U}:fI (ls.map U.st) (ls.map s.en) (fun f g=>(ls.getD g U.zero).ed.foldl (s.kR ls) (f:Int)) ls.length ls.length=(s.cP ls).c.co:=by
 show _=yg s ls ls.length;unfold fI yg;refine List.map_congr_left fun f hf=>?_
 have hf:=List.mem_range.1 hf;rw[if_pos hf];unfold gJ mQ;refine List.map_congr_left fun g hg=>?_
 have hg:=List.mem_range.1 hg;rw[if_pos hg,mq U.zero hf,mq U.zero hg];rfl
theorem IL{s:aa}{x:bj}:stripL [.ptr (ry (.vw (.ptr s.cells)) x (ae fm none (x.ls.map some)))]=[.ptr (ry (.ptr s.cells) x (ae U.d U.zero x.ls))]:=by
 show[D.ptr [(D.vw (.ptr s.cells)).strip,_,(ints x.c.fr).strip,(ints x.c.to).strip,(ints x.c.aU).strip,(aF x.c.co).strip,(ints x.ed).strip,(ae fm none (x.ls.map some)).strip]]=_;rw[Mg,Ar,Bv,fX,fX,fX,fX];rfl
def DW(s:aa)(l:List D):Prop:=(∃x,l=[.ptr (ry (.vw (.ptr s.cells)) x (ae fm none (x.ls.map some))),.aY]/\s.cO=some x)\/∃m,l=[.bc,.bf 181 (.agg [.str m])]/\s.cO=none
def Nk(s:aa)(rc:D)(gs:List D):Prop:=gs=[]/\∃l,rc=.al l/\DW s l
def B5:List Nat:=[0,2,3,4,5,6,7,8,10,11,12,14,15,16,43,44,45,101,102,126,127,128]
def Kt:Sl:=ah Tryz.types Tryz.f115 B5 [(0,140),(0,141),(0,144),(4,2),(9,1)]
theorem TV:aC Tryz.prog Tryz.f115 B5 Kt 1=true:=by decide +kernel
theorem XM(s:aa)(h:s.ok=true):bK Tryz.prog 115 [.ptr s.cells] [] (Nk s):=by
 obtain⟨hk1,hlf,hrt⟩:=fj h;have hs:=gw hk1;have hto:=hs.to;have h0:=hs.n0;have h8:=hs.n8;have hf8:=hs.f8;refine jc .view Tryz.func115 TV ?_;unfold Kt ah B5;simp only[go_sem];refine gP [] false (Yx s h) ?_;rintro _ _ ⟨rfl,l,rfl,hq⟩;refine⟨(by repeat(first | exact trivial | refine⟨(fun h=>by cases h),?_⟩)),(fun h=>by cases h),?_⟩;rcases hq with⟨list,cl,K,rfl,R⟩ | ⟨m,rfl,hq⟩
 rotate_left
 ·simp only[go_sem]
  exact⟨_,_,⟨rfl,_,rfl,.inr ⟨_,rfl,oo hq⟩⟩,rfl,rfl,trivial⟩
 simp only[go_sem];refine gP [] false (XJ hs R.sp R.le _ _) ?_;rintro _ _ ⟨rfl,O,rfl,hp,hsr⟩;refine⟨(by repeat(first | exact trivial | refine⟨(fun h=>by cases h),?_⟩)),(fun h=>by cases h),?_⟩;obtain⟨hOl,hOr,Q⟩:=VY h R hp hsr;have hKl:=R.le;simp only[go_sem];refine⟨fun h40=>?_,fun h40=>?_⟩
 ·exact⟨_,_,⟨rfl,_,rfl,.inr ⟨_,rfl,oo (.iA _ Q.ae fun ha=>by have:=ha.2.1;rw[List.length_map] at this;omega)⟩⟩,rfl,rfl,trivial⟩
 refine an (XP O (by omega) (fun i hi=>hOr i hi)) rfl (.inl (bT _)) ?_;generalize hB:(List.range O.length).foldl (fun o x=>o.set (O.getD x 0).toNat (x:Int)) (List.replicate O.length 0)=B at Q;simp only[go_sem];generalize hls:(O.map fun c=>K.getD c.toNat U.zero)=ls at Q;have hlsl:ls.length=O.length:=by rw[<-hls,List.length_map]
 refine aE [8,9,10] (fun(i:Nat)=>[(7,.box [.o (.ptr [.vw (.ptr s.cells),.int .i64 s.nd,ints ((ls.take i).map U.st),ints ((ls.take i).map s.en),ints [],aF [],ints [],ae fm none ((ls.take i).map some)])]),(16,.int .i64 i)]) (fun i=>i<=O.length) (fun i=>O.length-i) 0 (by simp only[go_sem];rfl) (Nat.zero_le _) rfl ?_;intro i hi;simp only[go_sem];refine⟨fun h1=>?_,fun h1=>?_⟩
 ·have hki:K.getD (O.getD i 0).toNat U.zero=ls.getD i U.zero:=by rw[<-hls,mq (0:Int) h1]
  obtain⟨y,hy⟩:=Q.ae.sp _ (dv (d:=U.zero) (show i<ls.length by omega));have hend:=pW s (ls.getD i U.zero) hto h0;rw[hy] at hend;simp only[lp] at hend;have hr:=hOr i h1;simp only[hki];refine⟨h1,by omega,an hend rfl (.inl rfl) ?_⟩;simp only[go_sem];have htl:(ls.take i).length=i:=by rw[List.length_take];omega
  simp only[List.length_map,htl];refine⟨rfl,by omega,by omega,by omega,i+1,h1,by omega,?_⟩;rw[bN (show i<ls.length by omega) U.zero,aL h1 (by simp only[maxLen];omega)];simp only[List.map_append,List.map_cons,List.map_nil,qL hy]
  try rfl
 obtain rfl:i=O.length:=by omega
 rw[List.take_of_length_le (show ls.length<=O.length by omega)];refine aE [11] (fun(x:Nat)=>[(7,.box [.o (.ptr [.vw (.ptr s.cells),.int .i64 s.nd,ints (ls.map U.st),ints (ls.map s.en),ints (pa s ls x),aF [],ints [],ae fm none (ls.map some)])]),(18,.int .i64 x)]) (fun x=>(x:Int)<=s.nd) (fun x=>s.nd.toNat-x) 0 (by simp only[go_sem];rfl) h0 rfl ?_;intro x hx;have hidl:(pa s ls x).length=x:=pQ;simp only[go_sem];refine⟨fun h2=>?_,fun h2=>?_⟩
 ·obtain⟨a,c,z,a1,a2,c1,c2,z1,z2,z3,z4⟩:=Q.at h ⟨_,qO (s:=s) (x:=x) (by omega) h2⟩
  have hbl:=Q.bl;have hwx:=aL (n:=9) (i:=x) (by omega) (by decide);have hids:pa s ls (x+1)=pa s ls x++[(z:Int)]:=by rw[<-z4];exact pR
  with_reducible (repeat' apply And.intro)
  all_goals(
   refine an (wH hs R a1 _ _ a2) rfl (.inl rfl) ?_;simp only[go_sem,c1,z1,hidl]
   exact⟨by omega,by omega,x+1,by omega,by omega,by rw[hids,hwx]⟩)
 obtain rfl:x=s.nd.toNat:=by omega
 refine aE [12,13] (fun(k:Nat)=>[(7,.box [.o (.ptr [.vw (.ptr s.cells),.int .i64 s.nd,ints (ls.map U.st),ints (ls.map s.en),ints (pa s ls s.nd.toNat),aF [],ints (qK s ls k),ae fm none (ls.map some)])]),(21,.int .i64 k)]) (fun k=>k<=s.fr.length) (fun k=>s.fr.length-k) 0 (by simp only[go_sem];rfl) (Nat.zero_le _) rfl ?_;intro k hk;have hedl:(qK s ls k).length=k:=pQ;simp only[go_sem];refine⟨fun h3=>?_,fun h3=>?_⟩
 ·have hfr:=eM hs.fr h3
  have hsp:=o5 (p:=⟨s.fr.getD k 0,[]⟩) (qO hfr.1 hfr.2) h3 (show(0:Nat)<6 by decide);rw[List.nil_append] at hsp;obtain⟨a,c,z,a1,a2,c1,c2,z1,z2,z3,z4⟩:=Q.at h ⟨_,hsp⟩;have hbl:=Q.bl;have hwk:=aL h3 (show s.fr.length<=maxLen by simp only[maxLen];omega);have heds:qK s ls (k+1)=qK s ls k++[(z:Int)]:=by rw[<-z4];exact pR
  refine⟨h3,?_⟩
  with_reducible (repeat' apply And.intro)
  all_goals(
   refine an (wH hs R a1 _ _ a2) rfl (.inl rfl) ?_;simp only[go_sem,c1,z1,hedl]
   exact⟨by omega,by omega,k+1,h3,by omega,by rw[heds,hwk]⟩)
 obtain rfl:k=s.fr.length:=by omega
 have hfl:(ls.map U.st).length=ls.length:=List.length_map _;have htl:(ls.map s.en).length=ls.length:=List.length_map _
 have htab:=XD (.vw (.ptr s.cells)) (.ptr s.cells) (ae fm none (ls.map some)) (ae U.d U.zero ls) Mg Ar s.nd (ls.map U.st) (ls.map s.en) (pa s ls s.nd.toNat) (qK s ls s.fr.length) B (tq list cl K) Wb ⟨_,rfl⟩ 145 (fun f g=>(ls.getD g U.zero).ed.foldl (s.kR ls) f) (by omega) (by omega) Ww
  (fun co f g hf hg he=>Yz h Q _ _ _ _ _ _ _ f g (by omega) (by omega) (by
    rw[mq U.zero (show f<ls.length by omega),mq U.zero (show g<ls.length by omega)] at he
    exact he))
 refine jB [7,3,6] false htab ?_;simp only[go_sem];rw[hfl,aaD];refine OB (Xv h Q.ae (by omega)) (xs:=[_]) rfl (IL (s:=s) (x:=s.cP ls)) (.inl rfl) ?_;simp only[go_sem];refine⟨fun hg=>?_,fun hg=>?_⟩
 ·exact⟨_,_,⟨rfl,_,rfl,.inr ⟨_,rfl,vn Q.ae (by simpa using hg)⟩⟩,rfl,rfl,trivial⟩
 ·refine⟨_,_,⟨rfl,_,rfl,.inl ⟨s.cP ls,rfl,oo (.yes ls ⟨list,R.sh.nd,R.sh.a,R.sh.len⟩ Q.ae ⟨fun p hp=>?_,by omega,by simpa using hg⟩)⟩⟩,rfl,rfl,trivial⟩
  obtain⟨j,hj,rfl⟩:=ff (d:=U.zero) hp;exact Q.ib hj
def bj.pD(s:aa)(x:bj):D:=.ptr (ry (.ptr s.cells) x (ae U.d U.zero x.ls))
def Nl(s:aa)(l:List D):Prop:=(∃x,l=[x.pD s,.aY]/\s.cO=some x)\/∃m,l=[.bc,.bf 181 (.agg [.str m])]/\s.cO=none
theorem YA(s:aa)(h:s.ok=true):bK Tryz.prog 115 [.ptr s.cells] [] fun rc gs=>gs=[]/\∃l,rc=.al l/\Nl s l:=by
 refine(bK.clean (Q:=DW s) (XM s h) fun l hl=>?_).imp fun r g ⟨hg,l,hr,hl⟩=>⟨hg,_,hr,?_⟩
 ·rcases hl with⟨_,rfl,_⟩ | ⟨_,rfl,_⟩<;>exact⟨trivial,trivial,trivial⟩
 ·rcases hl with⟨x,rfl,hh⟩ | ⟨m,rfl,hh⟩
  ·refine .inl ⟨x,?_,hh⟩
   have:=IL (s:=s) (x:=x);injection this with this
   show[D.strip _,_]=_;rw[this];rfl
  ·exact .inr ⟨m,rfl,hh⟩
end Go.D3
namespace Go.D3
open Go Go.RowKit Go.Extern.Stop Go.Stop Go.Extern
set_option maxRecDepth 100000
set_option maxHeartbeats 4000000
theorem N4(t:Value)(w:World) :
  Calls Go.Proofs.Tryz.prog 116 #[.nilIface,t] w fun e w'=>e=.returned (.bool false)/\w'=w:=by
 go_enter Go.Proofs.Tryz.func116,Go.Proofs.Tryz.ntmps116
 go_wp2
 go_ret
 exact⟨rfl,rfl⟩
theorem Ob(t:Addr)(w:World):(ReflectliteValue.unpack (.iface 183 (.pointer (some t)))).run Go.Proofs.Tryz.prog w
  = .ok (.agg #[.pointer (some ⟨10,183,none⟩),.pointer (some ⟨w.heap.size,0,none⟩),.int .u64 150]) (w.alloc (.cells #[.pointer (some t)] 183)):=by kernel_rfl
theorem N8(a:Addr)(w:World):(ReflectliteValue.methodAny (ReflectliteValue.valueError "reflectlite.Value.Type" 0) (fun t _ _ _=>ReflectliteType.toType t) #[.agg #[.pointer (some ⟨10,183,none⟩),.pointer (some a),.int .u64 150]]).run Go.Proofs.Tryz.prog w
  = .ok (.iface 264 (.agg #[.pointer (some ⟨10,183,none⟩)])) w:=by kernel_rfl
theorem N2(h:Value)(w:World):(Go.method 506 264 (.agg #[h]) "Kind").run Go.Proofs.Tryz.prog w=.ok (292,h) w:=by kernel_rfl
theorem NY(w:World):((ReflectliteType.abiMethod fun t=>(fun a:Nat=>Value.int IntKind.u8 (a:Int)) <$> Rtype.kind t) #[.pointer (some ⟨10,183,none⟩)]).run Go.Proofs.Tryz.prog w=.ok (.int .u8 22) w:=by kernel_rfl
theorem NX(w:World):((ReflectliteType.abiMethod fun t=>(fun a:Nat=>Value.int IntKind.u8 (a:Int)) <$> Rtype.kind t) #[.pointer (some ⟨10,181,none⟩)]).run Go.Proofs.Tryz.prog w=.ok (.int .u8 25) w:=by kernel_rfl
theorem JU(z:Sem Value)(f:TypeId->Addr->Nat->Nat->Sem Value)(v:Value) :
  ReflectliteValue.method z f #[v]=(do match<-ReflectliteValue.parts v with | none=>z | some (t,a,fl)=>f t a fl (fl % 32)):=rfl
theorem Ev(a:Addr)(w:World):(ReflectliteValue.parts (.agg #[.pointer (some ⟨10,183,none⟩),.pointer (some a),.int .u64 150])).run Go.Proofs.Tryz.prog w=.ok (some (183,a,150)) w:=by kernel_rfl
theorem NW(a p:Addr)(W:World)(ha:W.cell? a=some (.pointer (some p))) :
  (ReflectliteValue.method (ReflectliteValue.valueError "reflectlite.Value.IsNil" 0) ReflectliteValue.isNil #[.agg #[.pointer (some ⟨10,183,none⟩),.pointer (some a),.int .u64 150]]).run Go.Proofs.Tryz.prog W=.ok (.bool false) W:=by
 rw[JU];simp only[Sem.run_bind,Ev,Result.andThen];simp[ReflectliteValue.isNil,loadVar,isAgg,underlying,Go.Proofs.Tryz.underlying183,ha,Result.andThen]
theorem N0(h:Value)(w:World):(Go.method 506 264 (.agg #[h]) "Elem").run Go.Proofs.Tryz.prog w=.ok (303,.agg #[h]) w:=by kernel_rfl
theorem N1(h:Value)(w:World):(Go.method 506 264 (.agg #[h]) "Implements").run Go.Proofs.Tryz.prog w=.ok (304,.agg #[h]) w:=by kernel_rfl
theorem NZ(h:Value)(w:World):(Go.method 506 264 (.agg #[h]) "AssignableTo").run Go.Proofs.Tryz.prog w=.ok (301,.agg #[h]) w:=by kernel_rfl
theorem NR(w:World):(ReflectliteType.method ReflectliteType.elem #[.agg #[.pointer (some ⟨10,183,none⟩)]]).run Go.Proofs.Tryz.prog w=.ok (.iface 264 (.agg #[.pointer (some ⟨10,181,none⟩)])) w:=by kernel_rfl
theorem NV(w:World):(ReflectliteType.relation "Implements" ReflectliteType.implements_ #[.agg #[.pointer (some ⟨10,181,none⟩)],.iface 264 (.agg #[.pointer (some ⟨10,177,none⟩)])]).run Go.Proofs.Tryz.prog w=.ok (.bool true) w:=by kernel_rfl
theorem N9(v:Value)(w:World):(ReflectliteType.typeOf #[.iface 181 v]).run Go.Proofs.Tryz.prog w=.ok (.iface 264 (.agg #[.pointer (some ⟨10,181,none⟩)])) w:=by kernel_rfl
theorem NP(w:World):(ReflectliteType.relation "AssignableTo" ReflectliteType.assignableTo #[.agg #[.pointer (some ⟨10,181,none⟩)],.iface 264 (.agg #[.pointer (some ⟨10,181,none⟩)])]).run Go.Proofs.Tryz.prog w=.ok (.bool true) w:=by kernel_rfl
theorem Oa(e:ByteArray)(w:World):(ReflectliteValue.unpack (.iface 181 (.agg #[.string e]))).run Go.Proofs.Tryz.prog w
  = .ok (.agg #[.pointer (some ⟨10,181,none⟩),.pointer (some ⟨w.heap.size,0,none⟩),.int .u64 153]) (w.alloc (.cells #[.string e] 181)):=by kernel_rfl
theorem NS(w:World):(Rtype.elem? 183).run Go.Proofs.Tryz.prog w=.ok (some 181) w:=by kernel_rfl
theorem N3(p:Addr)(w:World):(ReflectliteValue.mk 181 p ReflectliteValue.flagAddr).run Go.Proofs.Tryz.prog w=.ok (.agg #[.pointer (some ⟨10,181,none⟩),.pointer (some p),.int .u64 409]) w:=by kernel_rfl
theorem NT(a p:Addr)(W:World)(ha:W.cell? a=some (.pointer (some p))) :
  (ReflectliteValue.method (ReflectliteValue.valueError "reflectlite.Value.Elem" 0) ReflectliteValue.elem #[.agg #[.pointer (some ⟨10,183,none⟩),.pointer (some a),.int .u64 150]]).run Go.Proofs.Tryz.prog W
    = .ok (.agg #[.pointer (some ⟨10,181,none⟩),.pointer (some p),.int .u64 409]) W:=by
 rw[JU];simp only[Sem.run_bind,Ev,Result.andThen];simp[ReflectliteValue.elem,loadVar,isAgg,underlying,Go.Proofs.Tryz.underlying183,ha,Result.andThen,NS,N3]
theorem Ze(v x:Value):ReflectliteValue.set #[v,x]=(do
  let(some (dst,a,fl),some (src,b,_)):=(<-ReflectliteValue.parts v,<-ReflectliteValue.parts x)
   | unsupported (.noEntry "extern/(internal/reflectlite.Value).Set.zeroValue")
  if fl / ReflectliteValue.flagAddr % 2 == 0 then unsupported (.noEntry "extern/(internal/reflectlite.Value).Set.unaddressable")
  let val <-loadVar src b
  if<-Rtype.directlyAssignable dst src then storeVar dst a val
  else if<-Rtype.implements dst src then
   if(<-Rtype.kind src) == 20 then
    match val with
    | .nilIface=>unsupported (.noEntry "extern/reflectlite: a nil value of one interface type handed on as a value of another")
    | _=>storeVar dst a val
   else storeVar dst a (.iface src val)
  else panicString ("reflectlite.Set: value of type "++(<-Rtype.spelt src)++ " is not assignable to type "++(<-Rtype.spelt dst))
  pure (.tuple #[])):=rfl
theorem N6(a:Addr)(w:World):(ReflectliteValue.parts (.agg #[.pointer (some ⟨10,181,none⟩),.pointer (some a),.int .u64 409])).run Go.Proofs.Tryz.prog w=.ok (some (181,a,409)) w:=by kernel_rfl
theorem N5(a:Addr)(w:World):(ReflectliteValue.parts (.agg #[.pointer (some ⟨10,181,none⟩),.pointer (some a),.int .u64 153])).run Go.Proofs.Tryz.prog w=.ok (some (181,a,153)) w:=by kernel_rfl
theorem NQ(w:World):(Rtype.directlyAssignable 181 181).run Go.Proofs.Tryz.prog w=.ok true w:=by kernel_rfl
theorem NO(w:World):(isAgg 181).run Go.Proofs.Tryz.prog w=.ok true w:=by kernel_rfl
theorem Ew(w:World):(sizeOf 181).run Go.Proofs.Tryz.prog w=.ok 1 w:=by kernel_rfl
theorem N7(ta b:Addr)(e:ByteArray)(old:Value)(W:World)(hb:W.cell? b=some (.string e))(ht:W.cell? ta=some old)(hf:W.frozen? ta=false) :
  (ReflectliteValue.set #[.agg #[.pointer (some ⟨10,181,none⟩),.pointer (some ta),.int .u64 409],.agg #[.pointer (some ⟨10,181,none⟩),.pointer (some b),.int .u64 153]]).run Go.Proofs.Tryz.prog W
    = .ok (.tuple #[]) (W.setCell ta (.string e)):=by
 have hld:(loadVar 181 b).run Go.Proofs.Tryz.prog W=.ok (.agg #[.string e]) W:=by
  unfold loadVar
  have hl:(loadCells b 1).run Go.Proofs.Tryz.prog W=.ok #[.string e] W:=run_loadCells_list W b [.string e] fun j v hj=>by
   cases j with
   | zero=>simp only[List.getElem?_cons_zero,Option.some.injEq] at hj;subst hj;exact hb
   | succ j=>simp at hj
  simp only[Sem.run_bind,NO,Ew,Result.andThen,if_true,hl];rfl
 have aM:(storeVar 181 ta (.agg #[.string e])).run Go.Proofs.Tryz.prog W=.ok () (W.setCell ta (.string e)):=by
  unfold storeVar;simp only[Sem.run_bind,Ew,Result.andThen];rw[if_neg (show ¬(Value.agg #[Value.string e]).cells.size≠1 from fun h=>h rfl)];show(storeCells ta [Value.string e]).run _ W=_;simp only[storeCells,Sem.run_bind,Addr.add,if_true];rw[run_store Go.Proofs.Tryz.prog W ta _ _ (by rfl)];simp[ht,hf,Result.andThen]
 rw[Ze];simp only[Sem.run_bind,N6,N5,Result.andThen];simp[ReflectliteValue.flagAddr,hld,Result.andThen,NQ,aM]
theorem NU(e:ByteArray)(t:Addr)(old:Value)(w:World)(hg:w.cell? ⟨0,0,none⟩=some (.iface 264 (.agg #[.pointer (some ⟨10,177,none⟩)])))(ht0:w.cell? t=some old)(hf0:w.frozen? t=false) :
  Calls Go.Proofs.Tryz.prog 116 #[.iface 181 (.agg #[.string e]),.iface 183 (.pointer (some t))] w fun ev w'=>ev=.returned (.bool true)/\w'=((((w.alloc (.cells #[.pointer (some t)] 183)).alloc (.cells #[.pointer (some ⟨10,183,none⟩),.pointer (some ⟨w.heap.size,0,none⟩),.int .u64 150] 219)).alloc (.cells #[.pointer (some ⟨10,183,none⟩),.pointer (some ⟨w.heap.size,0,none⟩),.int .u64 150] 219)).alloc (.cells #[.string e] 181)).setCell t (.string e):=by
 have h6:=@run_callFunc_extern Go.Proofs.Tryz.prog 147 _ (fun args=>ReflectliteValue.unpack (args.getD 0 (.tuple #[]))) Go.Proofs.Tryz.func147 (by kernel_rfl) (by kernel_rfl) (by kernel_rfl) (by kernel_rfl);have h7:=@run_callFunc_extern Go.Proofs.Tryz.prog 148 _ (ReflectliteValue.methodAny (ReflectliteValue.valueError "reflectlite.Value.Type" 0) (fun t _ _ _=>ReflectliteType.toType t)) Go.Proofs.Tryz.func148 (by kernel_rfl) (by kernel_rfl) (by kernel_rfl) (by kernel_rfl);have h8:=@run_callFunc_extern Go.Proofs.Tryz.prog 149 _ (ReflectliteValue.method (ReflectliteValue.valueError "reflectlite.Value.IsNil" 0) ReflectliteValue.isNil) Go.Proofs.Tryz.func149 (by kernel_rfl) (by kernel_rfl) (by kernel_rfl) (by kernel_rfl);have h27:=@run_callFunc_extern Go.Proofs.Tryz.prog 292 _ (ReflectliteType.abiMethod fun t=>do pure (.int .u8 (<-Rtype.kind t))) Go.Proofs.Tryz.func292 (by kernel_rfl) (by kernel_rfl) (by kernel_rfl) (by kernel_rfl);have h37:=@run_callFunc_extern Go.Proofs.Tryz.prog 303 _ (ReflectliteType.method ReflectliteType.elem) Go.Proofs.Tryz.func303 (by kernel_rfl) (by kernel_rfl) (by kernel_rfl) (by kernel_rfl);have h38:=@run_callFunc_extern Go.Proofs.Tryz.prog 304 _ (ReflectliteType.relation "Implements" ReflectliteType.implements_) Go.Proofs.Tryz.func304 (by kernel_rfl) (by kernel_rfl) (by kernel_rfl) (by kernel_rfl);have h10:=@run_callFunc_extern Go.Proofs.Tryz.prog 187 _ ReflectliteType.typeOf Go.Proofs.Tryz.func187 (by kernel_rfl) (by kernel_rfl) (by kernel_rfl) (by kernel_rfl);have h35:=@run_callFunc_extern Go.Proofs.Tryz.prog 301 _ (ReflectliteType.relation "AssignableTo" ReflectliteType.assignableTo) Go.Proofs.Tryz.func301 (by kernel_rfl) (by kernel_rfl) (by kernel_rfl) (by kernel_rfl);have h11:=@run_callFunc_extern Go.Proofs.Tryz.prog 188 _ (ReflectliteValue.method (ReflectliteValue.valueError "reflectlite.Value.Elem" 0) ReflectliteValue.elem) Go.Proofs.Tryz.func188 (by kernel_rfl) (by kernel_rfl) (by kernel_rfl) (by kernel_rfl)
 have h12:=@run_callFunc_extern Go.Proofs.Tryz.prog 189 _ ReflectliteValue.set Go.Proofs.Tryz.func189 (by kernel_rfl) (by kernel_rfl) (by kernel_rfl) (by kernel_rfl);have tO:=N9;have mA:=NZ;have a25:=NP;have v25:=Oa;have f6:=Ob;have f7:=N8;have mK:=N2;have mE:=N0;have mI:=N1;have k27:=NY;have k25:=NX;have e27:=NR;have i25:=NV;have n8:=NW ⟨w.heap.size,0,none⟩ t ((w.alloc (.cells #[.pointer (some t)] 183)).alloc (.cells #[.pointer (some ⟨10,183,none⟩),.pointer (some ⟨w.heap.size,0,none⟩),.int .u64 150] 219)) (by simp)
 have hlt : 0<w.heap.size:=by
  rcases Nat.eq_zero_or_pos w.heap.size with h0 | h
  ·simp[World.cell?,h0] at hg
  ·exact h
 have hg2:((w.alloc (.cells #[.pointer (some t)] 183)).alloc (.cells #[.pointer (some ⟨10,183,none⟩),.pointer (some ⟨w.heap.size,0,none⟩),.int .u64 150] 219)).cell? ⟨0,0,none⟩=some (.iface 264 (.agg #[.pointer (some ⟨10,177,none⟩)])):=by
  rw[World.cell?_alloc_lt _ _ ⟨0,0,none⟩ (by simp),World.cell?_alloc_lt _ _ ⟨0,0,none⟩ hlt];exact hg
 have htl:t.block<w.heap.size:=by
  rcases Nat.lt_or_ge t.block w.heap.size with h | h
  ·exact h
  ·simp[World.cell?,Array.getElem?_eq_none h] at ht0
 have el:=NT ⟨w.heap.size,0,none⟩ t (((w.alloc (.cells #[.pointer (some t)] 183)).alloc (.cells #[.pointer (some ⟨10,183,none⟩),.pointer (some ⟨w.heap.size,0,none⟩),.int .u64 150] 219)).alloc (.cells #[.pointer (some ⟨10,183,none⟩),.pointer (some ⟨w.heap.size,0,none⟩),.int .u64 150] 219)) (by rw[World.cell?_alloc_lt _ _ ⟨w.heap.size,0,none⟩ (by simp;omega)];simp)
 have st:=N7 t ⟨w.heap.size+1+1+1,0,none⟩ e old ((((w.alloc (.cells #[.pointer (some t)] 183)).alloc (.cells #[.pointer (some ⟨10,183,none⟩),.pointer (some ⟨w.heap.size,0,none⟩),.int .u64 150] 219)).alloc (.cells #[.pointer (some ⟨10,183,none⟩),.pointer (some ⟨w.heap.size,0,none⟩),.int .u64 150] 219)).alloc (.cells #[.string e] 181))
  (by rw[World.cell?_alloc_at _ _ _ _ (by simp)];rfl)
  (by rw[World.cell?_alloc_lt _ _ t (by simp;omega),World.cell?_alloc_lt _ _ t (by simp;omega),World.cell?_alloc_lt _ _ t (by simp;omega),World.cell?_alloc_lt _ _ t htl];exact ht0)
  (by rw[World.frozen?_alloc_old _ _ t (by simp;omega),World.frozen?_alloc_old _ _ t (by simp;omega),World.frozen?_alloc_old _ _ t (by simp;omega),World.frozen?_alloc_old _ _ t (Nat.ne_of_lt htl)];exact hf0)
 go_enter Go.Proofs.Tryz.func116,Go.Proofs.Tryz.ntmps116
 go_wp2
 refine wp_loop_rounds 1 ?_;rw[rounds_succ]
 go_wp2
 go_ret
 exact⟨rfl,rfl⟩
end Go.D3
namespace Go.D3
open Go Go.RowKit Go.Extern.Stop Go.Stop Go.Extern
set_option maxRecDepth 100000
set_option maxHeartbeats 4000000
theorem OP{w:World}{v:Value}(h:w.cell? ⟨0,0,none⟩=some v) : 0<w.heap.size:=by
 rcases Nat.eq_zero_or_pos w.heap.size with h0 | h1
 ·simp[World.cell?,h0] at h
 ·exact h1
theorem Wd(v:Value)(w:World)(Φ:Addr->World->Prop)(hc:Calls Go.Proofs.Tryz.prog 115 #[v] w fun e w'=>∃a,e=.returned (.tuple #[.pointer (some a),.nilIface])/\Φ a w') :
  Calls Go.Proofs.Tryz.prog 89 #[v] w fun e w''=>∃a w',e=.returned (.tuple #[.pointer (some a),.int .i64 0])/\Φ a w'/\∃s t,w''=w'.alloc (.cells #[.string s] t):=by
 go_enter Go.Proofs.Tryz.func89,Go.Proofs.Tryz.ntmps89
 go_wp2_with (first
  | (go_at_call 115;refine hc.mono ?_;rintro e w' ⟨a,rfl,hΦ⟩)
  | (go_at_call 116;refine(N4 _ _).mono ?_;rintro e w' ⟨rfl,rfl⟩))
 all_goals go_ret2
 exact⟨a,w',rfl,hΦ,_,_,rfl⟩
theorem Wc(v:Value)(w:World)(Φ:World->Prop)(hc:Calls Go.Proofs.Tryz.prog 115 #[v] w fun e w'=>∃s,e=.returned (.tuple #[.pointer none,.iface 181 (.agg #[.string s])])/\Φ w'/\w'.cell? ⟨0,0,none⟩=some (.iface 264 (.agg #[.pointer (some ⟨10,177,none⟩)]))) :
  Calls Go.Proofs.Tryz.prog 89 #[v] w fun e w''=>∃w',e=.returned (.tuple #[.pointer none,.int .i64 3])/\Φ w'/\w'.heap.size<=w''.heap.size/\(∀c,c<w'.heap.size->w''.heap[c]?=w'.heap[c]?)/\w''.os=w'.os/\w''.tape=w'.tape/\w''.output=w'.output:=by
 go_enter Go.Proofs.Tryz.func89,Go.Proofs.Tryz.ntmps89
 go_wp2_with (first
  | (go_at_call 115;refine hc.mono ?_;rintro e w' ⟨s,rfl,hΦ,hg⟩;have hlt:=OP hg)
  | (go_at_call 116;refine(NU s ⟨w'.heap.size,0,none⟩ (.string ⟨#[]⟩) (w'.alloc (.cells #[.string ⟨#[]⟩] 181)) (by rw[World.cell?_alloc_lt _ _ ⟨0,0,none⟩ hlt];exact hg) (by rw[World.cell?_alloc_at _ _ _ _ (by simp)];rfl) (by simp only[World.frozen?,heap_alloc_new];rfl)).mono ?_;rintro e w' ⟨rfl,rfl⟩))
 all_goals go_ret2
 refine⟨w',rfl,hΦ,by simp;omega,fun c hc=>?_,rfl,rfl,rfl⟩;rw[Go.heap_alloc_old _ _ (by simp;omega),Go.heap_alloc_old _ _ (by simp;omega),Go.heap_alloc_old _ _ (by simp;omega),Go.heap_alloc_old _ _ (by simp;omega),Go.heap_alloc_old _ _ hc]
noncomputable def mM(s:aa):D:=match s.cO with
 | some x=>.al [x.pD s,.int .i64 0]
 | none=>.al [.bc,.int .i64 3]
theorem Wu{s:aa}{x:bj}(h:s.cO=some x):mM s=.al [x.pD s,.int .i64 0]:=by unfold mM;rw[h]
theorem Wt{s:aa}(h:s.cO=none):mM s=.al [.bc,.int .i64 3]:=by unfold mM;rw[h]
theorem Jb{w:World}{A:Nat->Prop}{v:Value}{x y:D}(h:Rd w A v (.al [x,y])):∃a b,v=.tuple #[a,b]/\Rd w A a x/\Rd w A b y:=by
 cases h with
 | @al cs _ hs hr =>
  have h2:cs.size=2:=hs;obtain⟨l⟩:=cs
  match l,h2 with
  | [a,b],_=>exact⟨a,b,rfl,hr 0 _ rfl,hr 1 _ rfl⟩
theorem Ja{w:World}{A:Nat->Prop}{a b:Value}{x y:D}(h1:Rd w A a x)(h2:Rd w A b y):Rd w A (.tuple #[a,b]) (.al [x,y]):=by
 refine .al rfl fun j d hj=>?_
 match j with
 | 0=>cases hj;exact h1
 | 1=>cases hj;exact h2
 | _+2=>cases hj
theorem Yc(s:aa)(h:s.ok=true):aw Go.Proofs.Tryz.prog 89 [.v (.ptr s.cells)] (.vw (mM s)):=by
 intro w A vs Fs hg hA hn hpre hdis hFs
 have hE:∀j b,¬Fs j b:=fun j b hb=>by
  have:=(hFs j b hb).2.2
  match j,this with
  | 0,_=>exact(hpre 0 _ rfl).2 b hb
 have hvs:vs=#[vs.getD 0 undef]:=by
  match vs,hn with
  | ⟨[x]⟩,_=>rfl
 have hv:Rd w A (vs.getD 0 undef) (.ptr s.cells):=(hpre 0 _ rfl).1
 have hrd:=(YA s h).2 w A vs (fun _=>undef) (fun _ _=>False) hg hA hn (fun j a hj=>by
  match j with
  | 0=>cases hj;exact .rd hv
  | _+1=>cases hj) (fun k=>Pl.dead) (fun _ _ _ h=>h) (fun _ _ _ _ h=>h.elim) fun _ _ h=>h.elim
 have fin:∀{e:Ending}{w' w'':World}{v:Value}{A':Nat->Prop},e=.returned v->w.heap.size<=w'.heap.size->(∀b,b<w.heap.size->w'.heap[b]?=w.heap[b]?)->w'.os=w.os->w'.tape=w.tape->w'.output=w.output->w'.heap.size<=w''.heap.size->(∀b,b<w'.heap.size->w''.heap[b]?=w'.heap[b]?)->w''.os=w'.os->w''.tape=w'.tape->w''.output=w'.output ->
   (∀b,A' b->A b\/(w.heap.size<=b/\b<w'.heap.size))->Rd w'' A' v (mM s) ->
   ∃(v:Value)(F:Nat->Prop)(Fs':Nat->Nat->Prop),e=.returned v/\w.heap.size<=w''.heap.size /\
   aj w'' (fun b=>A b\/(w.heap.size<=b/\b<w''.heap.size/\¬F b/\∀j,¬Fs' j b)) v (.vw (mM s)) F /\
   (∀(j:Nat)(a:Arg),[Arg.v (D.ptr s.cells)][j]?=some a->a.post w'' (fun b=>A b\/(w.heap.size<=b/\b<w''.heap.size/\¬F b/\∀j,¬Fs' j b)) (vs.getD j undef) (Fs' j)) /\
   (∀b,F b->b<w''.heap.size/\(w.heap.size<=b\/∃j,Fs j b)/\∀j,¬Fs' j b)/\(∀j b,Fs' j b->b<w''.heap.size/\(w.heap.size<=b\/∃j,Fs j b)/\j < [Arg.v (D.ptr s.cells)].length)/\(∀i j b,i≠j->Fs' i b->¬Fs' j b) /\
   (∀b,b<w.heap.size->(∀j,¬Fs j b)->w''.heap[b]?=w.heap[b]?)/\w''.os=w.os/\w''.tape=w.tape/\cJ w w'':=by
  intro e w' w'' v A' he h1 h2 h3 h4 h5 g1 g2 g3 g4 g5 hA' hr;refine⟨v,fun _=>False,fun _ _=>False,he,by omega,.vw (hr.mono (fun b hb=>(hA' b hb).imp id fun hh=>⟨hh.1,by omega,id,fun _=>id⟩) fun _ _=>rfl),fun j a hj=>?_,fun _ h=>h.elim,fun _ _ h=>h.elim,fun _ _ _ _ h=>h.elim,fun b hb _=>(g2 b (by omega)).trans (h2 b hb),g3.trans h3,g4.trans h4,rq (g5.trans h5)⟩
  match j with
  | 0=>cases hj;exact fun _ h=>h
  | _+1=>cases hj
 rw[hvs] at hrd
 conv=>arg 3;rw[hvs]
 cases hp:s.cO with
 | some x =>
  refine(Wd _ w (fun a w'=>w.heap.size<=w'.heap.size/\(∀b,b<w.heap.size->w'.heap[b]?=w.heap[b]?)/\w'.os=w.os/\w'.tape=w.tape/\w'.output=w.output/\Rd w' (fun b=>A b\/(w.heap.size<=b/\b<w'.heap.size)) (.pointer (some a)) (x.pD s)) (hrd.mono ?_)).mono ?_
  ·rintro e w' ⟨rc,gs',v,F,gv',Fs',⟨rfl,l,rfl,hq⟩,rfl,hsz,hc,_,_,_,_,_,_,_,hsame,hos,htape,hout⟩
   rcases hq with⟨y,rfl,hy⟩ | ⟨m,rfl,hno⟩
   rotate_left
   ·rw[hp] at hno;cases hno
   obtain rfl:y=x:=by rw[hp] at hy;injection hy with hy;exact hy.symm
   obtain⟨a,b,rfl,h1,h2⟩:=Jb (lV hc ⟨trivial,trivial,trivial⟩);cases h2
   obtain⟨q,rfl⟩:∃q,a=.pointer (some q):=by
    unfold bj.pD at h1;cases h1;exact⟨_,rfl⟩
   exact⟨q,rfl,hsz,fun b hb=>hsame b hb fun _ h=>h,hos,htape,hout.1,h1.mono (fun b hb=>hb.imp id fun hh=>⟨hh.1,hh.2.1⟩) fun _ _=>rfl⟩
  ·rintro e w'' ⟨a,w',he,⟨h1,h2,h3,h4,h5,h6⟩,t,ty,rfl⟩
   refine fin (w':=w') he h1 h2 h3 h4 h5 (by simp) (fun b hb=>Go.heap_alloc_old _ _ hb) rfl rfl rfl (fun _ h=>h) ?_;unfold mM;rw[hp];exact Ja (h6.mono (fun _ h=>h) fun b hb=>Go.heap_alloc_old _ _ (hb.elim (fun ha=>by have:=hA b ha;omega) fun hh=>hh.2)) (.int (jM (k:=.i64) (n:=0) rfl))
 | none =>
  refine(Wc _ w (fun w'=>w.heap.size<=w'.heap.size/\(∀b,b<w.heap.size->w'.heap[b]?=w.heap[b]?)/\w'.os=w.os/\w'.tape=w.tape/\w'.output=w.output) (hrd.mono ?_)).mono ?_
  ·rintro e w' ⟨rc,gs',v,F,gv',Fs',⟨rfl,l,rfl,hq⟩,rfl,hsz,hc,_,_,_,_,_,_,_,hsame,hos,htape,hout⟩
   rcases hq with⟨y,rfl,hy⟩ | ⟨m,rfl,_⟩
   ·rw[hp] at hy;cases hy
   obtain⟨a,b,rfl,h1,h2⟩:=Jb (lV hc ⟨trivial,trivial,trivial⟩);cases h1
   obtain⟨q,rfl⟩:∃q,b=.iface 181 (.agg #[.string q]):=by
    cases h2 with
    | bf h2 =>
     cases h2 with
     | @agg cs _ hs hr =>
      have h3:cs.size=1:=hs;obtain⟨l⟩:=cs
      match l,h3 with
      | [u],_ =>
       have:=hr 0 _ rfl;cases this;exact⟨_,rfl⟩
   refine⟨q,rfl,⟨hsz,fun b hb=>hsame b hb fun _ h=>h,hos,htape,hout.1⟩,?_⟩;rw[cell_of_heap (hsame 0 (hA 0 hg.FW.2) fun _ h=>h)];exact hg.FW.1
  ·rintro e w'' ⟨w',he,⟨h1,h2,h3,h4,h5⟩,g1,g2,g3,g4,g5⟩
   refine fin (w':=w') (A':=fun _=>False) he h1 h2 h3 h4 h5 g1 g2 g3 g4 g5 (fun _ h=>h.elim) ?_;unfold mM;rw[hp];exact Ja .bc (.int (jM (k:=.i64) (n:=3) rfl))
end Go.D3
