/- CONTRACTS: maps of schemas: the reference's side. -/
import Derived.Test.YtpnchponfnbmiaaGreatDoorGAJ
import Derived.Test.YtpnchponfnbmiaaGreatDoorHG
import Derived.Test.YtpnchponfnbmiaaGreatDoorGAK
import Derived.Test.YtpnchponfnbmiaaGreatDoorGAF
namespace Go.D3
open Go
theorem ux{K:List Pth}:(U dJ none (K.map some)).strip=U Pth.d Pth.zero K:=by
 rw[u5 (g:=Pth.d) (e:=Pth.zero) (t:=fun o:Option Pth=>o.getD Pth.zero) rfl (fun x hx=>?_),List.map_map]
 ·congr 1
  exact List.map_id K
 ·obtain⟨p,_,rfl⟩:=List.mem_map.1 hx
  show D.agg [_,(match(ints p.ed).strip with | .agg l=>D.vw (.agg l) | d'=>d')]=_;rw[dh];rfl
theorem oK{l:List Pth}:(U Pth.d Pth.zero l).strip=U Pth.d Pth.zero l:=by
 have:=u5 (f:=Pth.d) (d:=Pth.zero) (g:=Pth.d) (e:=Pth.zero) (t:=fun x=>x) rfl (l:=l) fun x _=>by
  show D.agg [_,(ints x.ed).strip]=_;rw[dh];rfl
 rwa [List.map_id'] at this
end Go.D3
namespace Go.D3
open Go
theorem R2{s:Sch}(h:s.ok=true):∃o,s.fK o:=by
 by_cases hf:s.fits
 ·have hf':=hf
  obtain⟨l,hn,hA,_⟩:=hf';obtain⟨ls,hL⟩:=Sch.cB.Jw h hn hA;by_cases ha:s.all ls
  ·exact⟨_,.yes ls hf hL ha⟩
  ·exact⟨_,.iV ls hL ha⟩
 ·exact⟨_,.many hf⟩
theorem yo{s:Sch}(h:s.ok=true){x:au}(hp:s.aU=some x):∃ls,s.cB ls/\s.all ls/\x=s.cE ls:=by
 have:s.fK s.aU:=Classical.epsilon_spec (R2 h);rw[hp] at this;cases this with
 | yes ls _ hL ha=>exact⟨ls,hL,ha,rfl⟩
theorem iv{s:Sch}(h:s.ok=true){x:au}(hp:s.aU=some x):fY s x:=by
 obtain⟨ls,hL,ha,rfl⟩:=yo h hp;have hg:=ha.2.2;unfold Sch.fM at hg;simp only[Bool.and_eq_true] at hg;exact zG h hL hg.1.1
theorem rN{s:Sch}(h:s.ok=true){x:au}(hp:s.aU=some x):(∀p∈x.ls,s.sp p)/\x.ls.length<=40:=by
 obtain⟨ls,hL,ha,rfl⟩:=yo h hp;exact⟨hL.sp,ha.2.1⟩
theorem au.Cf{s:Sch}{x:au}(hx:fY s x){p:Pth}{y:Int}(hp:s.aB p=some y):∀i,i<=p.ed.length->x.c.fr.getD (x.arr p i).toNat 0=p.st
 | 0,_=>by
  obtain⟨h1,_,_⟩:=bx.1 hp;have hi:=hx.sh.aN;have ho:=hx.ob;have hb:=hx.sh.ids p.st.toNat (by omega);simp only[ak.jr,Bool.and_eq_true,beq_iff_eq] at hb;show x.c.fr.getD (x.c.aN.getD p.st.toNat 0).toNat 0=_;rw[hb.1];omega
 | i+1,hi=>by
  have ih:=au.Cf hx hp i (by omega);obtain⟨h,m,h1,h2,h3,h4⟩:=au.nr hx hp i (by omega);have hm:=kF hp hi;rw[bT (show i<p.ed.length by omega) 0] at hm;obtain⟨k,k1,k2,k3,k4⟩:=po hm;obtain⟨a1,a2,a3,a4⟩:=hx.ar k k2;obtain⟨g,hg⟩:∃g:Nat,x.ed.getD k 0=g:=⟨(x.ed.getD k 0).toNat,by omega⟩;rw[hg,Int.toNat_natCast] at a3 a4
  have e:x.arr p (i+1)=x.c.bI h g:=by
   unfold au.arr at h1|-
   rw[bT (show i<p.ed.length by omega) 0,List.foldl_append,h1];show x.c.bI h (x.ed.getD (p.ed.getD i 0).toNat 0)=_;rw[k1,Int.toNat_natCast,hg]
  have hc:=hx.sh.lU h2 (show g<x.c.fr.length by omega) (by rw[h4,a3];rw[k3] at h3;injection h3 with h3;exact h3.symm);rw[e,hc.2.2.1,<-ih,h1,Int.toNat_natCast]
theorem ak.Shape.CW{c:ak}(h:c.Shape):ak.cost c<=1048576:=by
 have h1:=h.fr;have h2:=h.to;have h3:=h.co;have h4:=h.toPre.iO
 have hr:b7 List.length c.co<=40+40*40:=by
  unfold b7
  have:∀n,n<=c.co.length->((c.co.take n).map List.length).sum<=n*40:=fun n=>by
   induction n with
   | zero=>intro _;simp
   | succ n ih =>
    intro hn;have:=rZ (cost:=List.length) (show n<c.co.length by omega) [];have hw:=h.row n (by omega);have:=ih (by omega);omega
  have:=this c.co.length (Nat.le_refl _);rw[List.take_length] at this;omega
 unfold ak.cost;omega
def Smp.gH(m:Smp)(e:Nat):Bool:=((m.aL.getD e Pth.zero).st == m.aX.getD (m.src.fr.getD e 0).toNat 0)&&(m.av.aB (m.aL.getD e Pth.zero) == some (m.aX.getD (m.src.to.getD e 0).toNat 0))
def Smp.okB(m:Smp):Bool:=m.src.ok&&m.av.ok&&((m.aX.length:Int) == m.src.nd)&&cN m.av.nd m.aX&&(m.aL.length == m.src.fr.length)&&cm m.aL.length m.gH
structure Smp.Ok(m:Smp):Prop where
 s:m.src.ok=true
 t:m.av.ok=true
 n:(m.aX.length:Int)=m.src.nd
 r:∀i,i<m.aX.length->0<=m.aX.getD i 0/\m.aX.getD i 0<m.av.nd
 e:m.aL.length=m.src.fr.length
 p:∀e,e<m.aL.length->(m.aL.getD e Pth.zero).st=m.aX.getD (m.src.fr.getD e 0).toNat 0/\m.av.aB (m.aL.getD e Pth.zero)=some (m.aX.getD (m.src.to.getD e 0).toNat 0)
theorem Smp.iU{m:Smp}(h:m.okB=true):m.Ok:=by
 simp only[Smp.okB,Bool.and_eq_true,beq_iff_eq,jO,Smp.gH] at h;obtain⟨⟨⟨⟨⟨h1,h2⟩,h3⟩,h4⟩,h5⟩,h6⟩:=h;exact⟨h1,h2,h3,fun i hi=>fP h4 hi,h5,h6⟩
def Smp.eX(m:Smp)(b:au)(p:Pth)(i:Nat):Int:=(p.ed.take i).foldl (fun h e=>b.c.bI h (b.arr (m.aL.getD e.toNat Pth.zero) (m.aL.getD e.toNat Pth.zero).ed.length)) (b.c.gi (m.aX.getD p.st.toNat 0))
theorem Smp.wW{m:Smp}{b:au}{p:Pth}{i:Nat}(h:i<p.ed.length):m.eX b p (i+1)=b.c.bI (m.eX b p i) (b.arr (m.aL.getD (p.ed.getD i 0).toNat Pth.zero) (m.aL.getD (p.ed.getD i 0).toNat Pth.zero).ed.length):=by
 unfold Smp.eX;rw[bT h 0,List.foldl_append];rfl
theorem Smp.wz{m:Smp}(hm:m.Ok){b:au}(hb:fY m.av b){p:Pth}{y:Int}(hp:m.src.aB p=some y){i:Nat}(hi:i<p.ed.length) :
  ∃k a:Nat,p.ed.getD i 0=k/\k<m.aL.length/\m.av.aB (m.aL.getD k Pth.zero)=some (m.aX.getD (m.src.to.getD k 0).toNat 0)/\b.arr (m.aL.getD k Pth.zero) (m.aL.getD k Pth.zero).ed.length=a/\a<b.c.fr.length /\
   b.c.fr.getD a 0=m.aX.getD (m.src.fr.getD k 0).toNat 0/\b.c.to.getD a 0=m.aX.getD (m.src.to.getD k 0).toNat 0/\bn m.src.fr m.src.to p.st (p.ed.take i)=some (m.src.fr.getD k 0)/\bn m.src.fr m.src.to p.st (p.ed.take (i+1))=some (m.src.to.getD k 0):=by
 have hmid:=kF hp (i:=i+1) hi;have hmid2:=hmid;rw[bT hi 0] at hmid;obtain⟨k,k1,k2,k3,k4⟩:=po hmid;have hke:k<m.aL.length:=by rw[hm.e];exact k2
 obtain⟨e1,e2⟩:=hm.p k hke;obtain⟨a,n,a1,a2,a3,a4⟩:=au.nr hb e2 _ (Nat.le_refl _);have hf:=au.Cf hb e2 _ (Nat.le_refl _);rw[a1,Int.toNat_natCast,e1] at hf;rw[List.take_length] at a3;have:=(bx.1 e2).2.2;rw[this] at a3;injection a3 with a3
 refine⟨k,a,k1,hke,e2,a1,a2,hf,by rw[a4,a3],k3,?_⟩;rw[hmid2,k4]
theorem Smp.tn{m:Smp}(hm:m.Ok){b:au}(hb:fY m.av b){p:Pth}{y:Int}(hp:m.src.aB p=some y):∀i,i<=p.ed.length ->
  ∃(h:Nat)(n:Int),m.eX b p i=h/\h<b.c.fr.length/\bn m.src.fr m.src.to p.st (p.ed.take i)=some n/\b.c.to.getD h 0=m.aX.getD n.toNat 0
 | 0,_=>by
  obtain⟨h1,_,_⟩:=bx.1 hp;have hn:=hm.n;have hr:=hm.r p.st.toNat (by omega);have hi:=hb.sh.aN;have ho:=hb.ob;have hid:=hb.sh.pt (x:=m.aX.getD p.st.toNat 0) hr.1 (by omega);have hbb:=hb.sh.ids (m.aX.getD p.st.toNat 0).toNat (by omega);simp only[ak.jr,Bool.and_eq_true,beq_iff_eq] at hbb;refine⟨(b.c.gi (m.aX.getD p.st.toNat 0)).toNat,p.st,?_,by omega,rfl,?_⟩
  ·show b.c.gi (m.aX.getD p.st.toNat 0)=_
   omega
  ·show b.c.to.getD (b.c.aN.getD (m.aX.getD p.st.toNat 0).toNat 0).toNat 0=_
   rw[hbb.2];omega
 | i+1,hi=>by
  obtain⟨h,n,h1,h2,h3,h4⟩:=Smp.tn hm hb hp i (by omega);obtain⟨k,a,k1,k2,_,a1,a2,a3,a4,f1,f2⟩:=Smp.wz hm hb hp (show i<p.ed.length by omega);rw[f1] at h3;injection h3 with h3
  have hc:=hb.sh.lU h2 a2 (by rw[h4,a3,h3]);refine⟨(b.c.bI h a).toNat,m.src.to.getD k 0,?_,by omega,f2,?_⟩
  ·rw[Smp.wW (by omega),k1,Int.toNat_natCast,a1,h1];omega
  ·rw[hc.2.2.2,a4]
def Smp.dK(m:Smp)(b:au):Bool:=cm m.src.lf.length fun i=>m.eX b (m.src.lf.getD i Pth.zero) (m.src.lf.getD i Pth.zero).ed.length == m.eX b (m.src.rt.getD i Pth.zero) (m.src.rt.getD i Pth.zero).ed.length
def Smp.dW(m:Smp)(b:au)(ls:List Pth):List Int:=ls.map fun p=>m.eX b p p.ed.length
end Go.D3
namespace Go.D3
open Go
set_option maxHeartbeats 4000000
set_option maxRecDepth 100000
set_option maxHeartbeats 1000000
theorem Pg(s:Sch):s.gr=!(!bq s.nd 0 8 || decide ((8:Int)<(s.fr.length:Int)) || ((s.to.length:Int) != (s.fr.length:Int)) || !cN s.nd s.fr || !cN s.nd s.to):=by
 unfold Sch.gr;have a1:decide (s.fr.length<=8)=!decide ((8:Int)<(s.fr.length:Int)):=by rw[<-decide_not];exact decide_eq_decide.2 (by omega)
 have a2:decide (s.to.length=s.fr.length)=!((s.to.length:Int) != (s.fr.length:Int)):=by
  by_cases h:s.to.length=s.fr.length<;>simp[h]<;>omega
 rw[a1,a2];cases bq s.nd 0 8<;>cases decide ((8:Int)<(s.fr.length:Int))<;>cases((s.to.length:Int) != (s.fr.length:Int))<;>cases cN s.nd s.fr<;>cases cN s.nd s.to<;>rfl
theorem Ph(s:Sch):s.ir=!(decide ((8:Int)<(s.lf.length:Int)) || ((s.rt.length:Int) != (s.lf.length:Int))):=by
 unfold Sch.ir;have a1:decide (s.lf.length<=8)=!decide ((8:Int)<(s.lf.length:Int)):=by rw[<-decide_not];exact decide_eq_decide.2 (by omega)
 have a2:decide (s.rt.length=s.lf.length)=!((s.rt.length:Int) != (s.lf.length:Int)):=by
  by_cases h:s.rt.length=s.lf.length<;>simp[h]<;>omega
 rw[a1,a2,Bool.not_or]
def A8:List Nat:=[0,2,1,3,4,5]
def IG:Sl:=ae Go.Proofs.Tryz.types Go.Proofs.Tryz.f79 A8 []
theorem Qz:aD Go.Proofs.Tryz.prog Go.Proofs.Tryz.f79 A8 IG 1=true:=by decide +kernel
theorem G6(s:Sch):al Go.Proofs.Tryz.prog 79 [.v (Sch.d s)] (.bool s.ok):=by
 refine fD fun hw=>?_
 simp only[dj,fH,Sch.d,Sch.cells,D.dx,gC] at hw;have hl:s.lf.length<=maxLen:=hw.1.2.2.2.1.1;refine aC Go.Proofs.Tryz.func79 Qz ?_;unfold IG ae A8;simp only[go_sem];refine af (yV _ _ _) rfl (.inl rfl) ?_;simp only[go_sem];refine⟨fun h=>by simpa using h,(fun h=>by simp only[Bool.or_eq_false_iff,Bool.and_eq_true,Bool.not_eq_true',Bool.not_eq_false'] at h|-;exact h),?_⟩;refine bt (fun _=>qe s.nd s.fr) rfl (fun h=>h) (.inl rfl) ?_;simp only[go_sem];refine⟨(fun h=>by simp only[Bool.or_eq_false_iff,Bool.and_eq_true,Bool.not_eq_true',Bool.not_eq_false'] at h|-;exact h),?_⟩;refine bt (fun _=>qe s.nd s.to) rfl (fun h=>h) (.inl rfl) ?_;simp only[go_sem];have e1:=Pg s;have e2:=Ph s;refine⟨(fun h=>by simp only[Bool.or_eq_false_iff,Bool.and_eq_true,Bool.not_eq_true',Bool.not_eq_false'] at h|-;exact h),(fun h=>by simp only[Bool.or_eq_false_iff,Bool.and_eq_true,Bool.not_eq_true',Bool.not_eq_false'] at h|-;exact h),(fun h=>by simp only[Bool.or_eq_false_iff,Bool.and_eq_true,Bool.not_eq_true',Bool.not_eq_false'] at h|-;exact h),fun h=>?_,fun h=>?_⟩
 ·unfold Sch.ok
  rw[e1,e2];generalize bq s.nd 0 8=x1 at h|-
  generalize decide ((8:Int)<(s.fr.length:Int))=x2 at h|-
  generalize((s.to.length:Int) != (s.fr.length:Int))=x3 at h|-
  generalize cN s.nd s.fr=x4 at h|-
  generalize cN s.nd s.to=x5 at h|-
  generalize decide ((8:Int)<(s.lf.length:Int))=x6 at h|-
  generalize((s.rt.length:Int) != (s.lf.length:Int))=x7 at h|-
  cases x1<;>cases x2<;>cases x3<;>cases x4<;>cases x5<;>cases x6<;>cases x7<;>first | rfl | cases h
 have e1':s.gr=true:=by rw[e1];simp only[Bool.or_eq_false_iff] at h;simp only[h.1.1.1.1.1.1,h.1.1.1.1.1.2,h.1.1.1.1.2,h.1.1.1.2,h.1.1.2];rfl
 have e2':s.ir=true:=by rw[e2];simp only[Bool.or_eq_false_iff] at h;simp only[h.1.2,h.2];rfl
 clear h e1 e2;have hs:=fg e1';have hto:=hs.to;have hn:=hs.n0;have hrt:s.rt.length=s.lf.length:=by have:=e2';simp[Sch.ir] at this;exact this.2
 refine aJ [4,5] (fun(i:Nat)=>[(3,.int .i64 i)]) (fun i=>i<=s.lf.length/\s.eqs i=true) (fun i=>s.lf.length-i) 0 (by simp only[go_sem];rfl) ⟨Nat.zero_le _,rfl⟩ rfl ?_;rintro i ⟨hi,ha⟩;simp only[go_sem];refine⟨fun h=>⟨h,by omega,af (yW s (s.lf.getD i Pth.zero) hto hn) rfl (.inl rfl) ?_⟩,fun h=>?_⟩
 ·simp only[go_sem]
  refine bt (fun _=>yW s (s.rt.getD i Pth.zero) hto hn) rfl (fun h=>h) (.inl rfl) ?_;simp only[go_sem];have hE:=Dp (s:=s) (n:=i);unfold Sch.qV at hE
  have neg:s.eqs (i+1)=false->false=s.ok:=fun hf=>by
   unfold Sch.ok;rw[e1',e2'];symm;simp only[Bool.true_and];unfold Sch.eqs at hf|-
   rw[List.all_eq_false] at hf|-
   obtain⟨x,h1,h2⟩:=hf;exact⟨x,by rw[List.mem_range] at h1|-;omega,h2⟩
  rw[ha,Bool.true_and] at hE;refine⟨fun h=>by simpa using h,(fun h=>by simp only[Bool.or_eq_false_iff,Bool.and_eq_true,Bool.not_eq_false'] at h|-;exact h),?_⟩;have some1:∀{o:Option Int}{b:Bool},(o.isSome&&b)=true->o=some (o.getD 0):=fun {o b} h=>by cases o with | none=>cases h | some a=>rfl
  refine bt (fun hg=>mM s (s.lf.getD i Pth.zero) ((s.aB (s.lf.getD i Pth.zero)).getD 0) hto (by rw[Bool.and_assoc] at hg;exact some1 hg)) rfl (fun h=>h) (.inl rfl) ?_;simp only[go_sem]
  refine bt (fun hg=>mM s (s.rt.getD i Pth.zero) ((s.aB (s.rt.getD i Pth.zero)).getD 0) hto (by
   rw[Bool.and_eq_true,Bool.and_eq_true] at hg;exact some1 (b:=true) (by rw[hg.1.2];rfl))) rfl (fun h=>h) (.inl rfl) ?_
  simp only[go_sem];refine⟨(fun h=>by simp only[Bool.or_eq_false_iff,Bool.and_eq_true,Bool.not_eq_true',Bool.not_eq_false'] at h|-;exact h),fun h2=>neg ?_,fun h2=>⟨i+1,⟨h,?_⟩,by omega,by rw[aH h hl]⟩⟩
  ·rw[hE]
   generalize s.aB (s.lf.getD i Pth.zero)=A at h2;generalize s.aB (s.rt.getD i Pth.zero)=B at h2;cases A with
   | none=>rfl
   | some a =>
    cases B with
    | none=>rfl
    | some b =>
     rw[Bool.and_eq_false_iff];simp only[Option.isSome_some,Bool.not_true,Bool.false_or,Option.getD_some,Bool.or_eq_true,bne_iff_ne] at h2;exact h2.imp beq_eq_false_iff_ne.2 beq_eq_false_iff_ne.2
  ·rw[hE]
   generalize s.aB (s.lf.getD i Pth.zero)=A at h2;generalize s.aB (s.rt.getD i Pth.zero)=B at h2;cases A with
   | none=>cases h2
   | some a =>
    cases B with
    | none=>cases h2
    | some b =>
     simp only[Option.isSome_some,Bool.not_true,Bool.false_or,Option.getD_some,Bool.or_eq_false_iff,bne_eq_false_iff_eq] at h2;rw[Bool.and_eq_true];exact⟨beq_iff_eq.2 h2.1,beq_iff_eq.2 h2.2⟩
 ·rw[show i=s.lf.length by omega] at ha
  unfold Sch.ok;rw[e1',e2',ha];rfl
end Go.D3
namespace Go.D3
open Go
theorem Jf{left:Int}{n:Nat}(h0 : 0<=left)(h1:left<=1048576)(h : 0<=sb left n):n<=1048576/\0<=sb left n/\sb left n<=1048576:=by
 unfold sb at h|-
 split at h
 ·rename_i hh;rw[if_pos hh];omega
 ·omega
theorem Np{α:Type}{f:α->D}{d:α}{l:List α}{k:Nat}{p:Path}:o5 k p (U f d l)=U f d l:=rfl
theorem N0{α:Type}{f:α->D}{d:α}{l:List α}{i o:Nat}{y:D}:(U f d l).eF i o y=.slice (f d) ((l.map f).set i (eo (f (l.getD i d)) o y)):=EC
attribute [go_sem] Np N0
theorem N3{α:Type}{f:α->D}{d:α}{l:List α}{dn r:List D}{K:List D->St->Prop}{st:St}:fh dn (U f d l::r) K st=fh (dn++[U f d l]) r K st:=by
 have:fh dn (U f d l::r) K st=((U f d l).pc=true/\fh (dn++[U f d l]) r K st):=rfl;rw[this,EB];simp
attribute [go_sem ↓] N3
def BM(a d:D):Prop:=a=d\/∃n l,d=.ptr l/\a=.ptr (l.take n)
def qA:List D->List D->Prop
 | [],[]=>True
 | a::xs,d::ds=>BM a d/\qA xs ds
 | _,_=>False
theorem Rd.wk{w:World}{A:Nat->Prop}{v:Value}{a d:D}(h:Rd w A v d)(hw:BM a d):Rd w A v a:=by
 rcases hw with rfl | ⟨n,l,rfl,rfl⟩
 ·exact h
 ·cases h with
  | ptr hA vs hc hr =>
   have key:∀(j:Nat)(x:D),(l.take n)[j]?=some x->l[j]?=some x:=fun j x hx=>by
    rw[List.getElem?_take] at hx;split at hx
    ·exact hx
    ·cases hx
   exact .ptr hA vs (fun j x hx=>hc j x (key j x hx)) fun j x hx=>hr j x (key j x hx)
theorem J0:∀{xs ds:List D},qA xs ds->xs.length=ds.length
 | [],[],_=>rfl
 | _::_,_::_,h=>by simp only[List.length_cons,J0 h.2]
 | [],_::_,h=>h.elim
 | _::_,[],h=>h.elim
theorem JZ:∀{xs ds:List D},qA xs ds->∀{j:Nat}{a:D},xs[j]?=some a->∃d,ds[j]?=some d/\BM a d
 | [],_,_,j,a,hj=>by simp at hj
 | x::r,y::s,h,0,a,hj=>by
  simp only[List.getElem?_cons_zero,Option.some.injEq] at hj;exact⟨y,rfl,hj▸h.1⟩
 | x::r,y::s,h,j+1,a,hj=>by
  simp only[List.getElem?_cons_succ] at hj|-
  exact JZ h.2 hj
 | _::_,[],h,_,_,_=>h.elim
theorem Hj[Mode]{P:Program}{f:FuncId}{xs ds:List D}{res:D}(h:al P f (xs.map .v) res)(hw:qA xs ds):al P f (ds.map .v) res:=by
 intro w A vs Fs h0 h1 h2 h3 h4 h5;have hl:=J0 hw;refine(h w A vs Fs h0 h1 (by rw[h2];simp[hl]) (fun j a hj=>?_) h4 fun j b hb=>⟨(h5 j b hb).1,(h5 j b hb).2.1,by simpa[hl] using(h5 j b hb).2.2⟩).mono ?_
 ·rw[List.getElem?_map,Option.map_eq_some_iff] at hj
  obtain⟨x,hx,rfl⟩:=hj;obtain⟨d,hd,hwd⟩:=JZ hw hx;have:=h3 j (.v d) (by rw[List.getElem?_map,hd];rfl);exact⟨this.1.wk hwd,this.2⟩
 ·rintro e w' ⟨v,F,Fs',e1,e2,e3,e4,e5,e6,e7⟩
  refine⟨v,F,Fs',e1,e2,e3,fun j a hj=>?_,e5,fun j b hb=>⟨(e6 j b hb).1,(e6 j b hb).2.1,by simpa[hl] using(e6 j b hb).2.2⟩,e7⟩;rw[List.getElem?_map,Option.map_eq_some_iff] at hj;obtain⟨d,hd,rfl⟩:=hj;have hj2:j<xs.length:=by rw[hl];exact(List.getElem?_eq_some_iff.1 hd).1
  exact e4 j (.v xs[j]) (by rw[List.getElem?_map,List.getElem?_eq_getElem hj2];rfl)
theorem gY[Mode]{P:Program}{f:FuncId}{pl:Prop}{K:St->Prop}{st:St}{xs:List Arg}{bs ds:List D}{res:D}(hR:al P f xs res)(ha:xs=bs.map .v)(hw:qA bs ds)(hn:res.ba=true\/pl)(hK:K (st.push (aM res))):@jS _ P f (some ds) true pl none ⟨K⟩ st :=
 af (Hj (ha▸hR) hw) rfl hn hK
theorem vX[Mode]{P:Program}{f:FuncId}{gt:Bool}{pl:Prop}{K:St->Prop}{st:St}{xs:List Arg}{bs ds:List D}{res:D}{b:Bool}(hR:b=true->al P f xs res)(ha:xs=bs.map .v)(hw:qA bs ds)(hgt:b=true->gt=true)(hn:res.ba=true\/pl)(hK:K (st.push (.when b res))) :
  @jS _ P f (some ds) gt pl (some b) ⟨K⟩ st:=bt (fun h=>Hj (ha▸hR h) hw) rfl hgt hn hK
end Go.D3
namespace Go.D3
open Go
set_option maxRecDepth 100000
set_option maxHeartbeats 4000000
def au.sL(x:au):List D:=[.int .i64 x.c.ob,ints x.c.fr,ints x.c.to,ints x.c.aN,aW x.c.co,U Pth.d Pth.zero x.ls,ints x.ed]
def au.none:au:=⟨ak.zero,[],[]⟩
noncomputable def jL(s:Sch):D:=match s.aU with
 | some x=>.ah [.agg x.sL,.bool true]
 | Option.none=>.ah [.agg au.none.sL,.bool false]
theorem Hf(s:Sch)(h:s.ok=true):al Go.Proofs.Tryz.prog 61 [.v (Sch.d s)] (.vw (jL s)):=by
 have hv:=bY.view (Q:=fun l=>∃(x:au)(M:List (Option Pth))(ok:Bool),l=[x.dX (U dJ none M),.bool ok]/\(ok=true->M=x.ls.map some/\s.aU=some x)/\(ok=false->s.aU=none/\x=⟨ak.zero,[],[]⟩/\M=[])) (TV s h);have hc:=bY.clean hv fun l hl=>by obtain⟨_,_,_,rfl,_⟩:=hl;exact⟨⟨trivial,trivial,trivial,trivial,trivial,trivial,trivial,trivial⟩,trivial,trivial⟩
 have hg:je Go.Proofs.Tryz.prog 61 [Sch.d s] [] (jL s) []:=hc.imp fun r g ⟨hg,l,hr,x,M,ok,hl,h1,h2⟩=>⟨?_,hg⟩
 ·have:(jL s).ca=true/\(jL s).refs c8:=by unfold jL;cases s.aU<;>exact⟨rfl,⟨trivial,trivial,trivial,trivial,trivial,trivial,trivial,trivial⟩,trivial,trivial⟩
  exact hg.ret this.1 this.2
 ·rw[hr,hl]
  cases ok with
  | true =>
   obtain⟨rfl,hp⟩:=h1 rfl;unfold jL;rw[hp];show D.ah [.agg [_,(ints x.c.fr).strip,(ints x.c.to).strip,(ints x.c.aN).strip,(aW x.c.co).strip,(U dJ none (x.ls.map some)).strip,(ints x.ed).strip],_]=_;rw[ux,qn,dh,dh,dh,dh];rfl
  | false =>
   obtain⟨hp,rfl,rfl⟩:=h2 rfl;unfold jL;rw[hp];rfl
end Go.D3
