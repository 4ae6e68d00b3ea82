/- CONTRACTS: paths and schemas, the program's side. -/
import Derived.Test.YtpnchponfnbmiaaGreatDoorGAA
namespace Go.D3
open Go
set_option maxHeartbeats 4000000
set_option maxRecDepth 100000
theorem No{α:Type}{f:α->D}{d:α}{l:List α}{k:Nat}{p:Path}:o5 k p (U f d l)=U f d l:=rfl
attribute [go_sem] No
def bn(fr to:List Int):Int->List Int->Option Int
 | x,[]=>some x
 | x,e::r=>if(bq e 0 ((fr.length:Int)-1)&&fr.getD e.toNat 0 == x)=true then bn fr to (to.getD e.toNat 0) r else none
def ic:Option Int->D
 | some x=>.ah [.int .i64 x,.bool true]
 | none=>.ah [.int .i64 0,.bool false]
theorem tc{fr to l:List Int}{x:Int}{i:Nat}(h:i<l.length):bn fr to x (l.drop i)=if(bq (l.getD i 0) 0 ((fr.length:Int)-1)&&fr.getD (l.getD i 0).toNat 0 == x)=true then bn fr to (to.getD (l.getD i 0).toNat 0) (l.drop (i+1)) else none:=by
 rw[List.drop_eq_getElem_cons h,bn,aO h]
theorem J4{n:Nat}(h:n<=maxLen):IntKind.i64.wrap ((n:Int)-1)=(n:Int)-1:=by
 simp only[maxLen] at h;exact kr ⟨by simp[IntKind.min,IntKind.signed,IntKind.bits];omega,by simp[IntKind.max,IntKind.signed,IntKind.bits];omega⟩
def z6:List Nat:=[0,1,2,6,7,9,10,11,12]
def HD:Sl:=ae Go.Proofs.Tryz.types Go.Proofs.Tryz.f114 z6 []
theorem Px:aD Go.Proofs.Tryz.prog Go.Proofs.Tryz.f114 z6 HD 3=true:=by decide +kernel
theorem S9[Mode](s:Sch)(x:Int)(l:List Int)(hto:s.to.length=s.fr.length):al Go.Proofs.Tryz.prog 114 [.v (.ptr s.cells),.v (.int .i64 x),.v (ints l)] (ic (bn s.fr s.to x l)):=by
 refine fD fun hw=>?_
 simp only[dj,fH,Sch.cells,D.dx,gC] at hw;obtain⟨⟨-,⟨hf,-⟩,-⟩,-,⟨hl,-⟩,-⟩:=hw;refine aC Go.Proofs.Tryz.func114 Px ?_;unfold HD ae z6;simp only[go_sem];refine aJ [5] (fun(p:Nat×Int)=>[(1,.int .i64 p.2),(8,.int .i64 p.1)]) (fun p=>p.1<=l.length/\bn s.fr s.to p.2 (l.drop p.1)=bn s.fr s.to x l) (fun p=>l.length-p.1) (0,x) (by simp only[go_sem];rfl) ⟨Nat.zero_le _,rfl⟩ rfl ?_;rintro⟨i,y⟩ ⟨hi,ha⟩;simp only[go_sem];rw[J4 hf];refine⟨fun h=>⟨h,af (qa _ _ _) rfl (.inl rfl) ?_⟩,fun h=>?_⟩
 ·simp only[go_sem]
  have hstep:=tc (fr:=s.fr) (to:=s.to) (x:=y) h;simp only at ha hi;rw[hstep] at ha;have hin:bq (l.getD i 0) 0 ((s.fr.length:Int)-1)=true->0<=l.getD i 0/\l.getD i 0<s.fr.length:=by unfold bq;simp;omega
  refine⟨fun h1=>⟨h1,hin h1⟩,fun h1=>by simpa using h1,fun h1=>?_,fun h1=>?_⟩
  ·rw[<-ha,if_neg];rfl
   intro h2;simp only[Bool.and_eq_true,beq_iff_eq] at h2;rw[h2.1,h2.2] at h1;simp at h1
  ·have h2:(bq (l.getD i 0) 0 ((s.fr.length:Int)-1)&&s.fr.getD (l.getD i 0).toNat 0 == y)=true:=by
    simp only[Bool.or_eq_false_iff,Bool.not_eq_false',bne_eq_false_iff_eq] at h1;rw[h1.1,h1.2];simp
   rw[if_pos h2] at ha;simp only[Bool.and_eq_true] at h2;exact⟨by have:=hin h2.1;omega,(i+1,s.to.getD (l.getD i 0).toNat 0),⟨h,ha⟩,by show l.length-(i+1)<l.length-i;omega,by rw[aH h hl]⟩
 ·simp only at ha hi
  rw[show i=l.length by omega,List.drop_length] at ha;rw[<-ha];rfl
def Sch.aB(s:Sch)(p:Pth):Option Int:=if(bq p.st 0 (s.nd-1)&&decide (p.ed.length<=6))=true then bn s.fr s.to p.st p.ed else none
def zZ:List Nat:=[0,1,4,5,3]
def HC:Sl:=ae Go.Proofs.Tryz.types Go.Proofs.Tryz.f88 zZ []
theorem Pw:aD Go.Proofs.Tryz.prog Go.Proofs.Tryz.f88 zZ HC 2=true:=by decide +kernel
theorem mJ[Mode](s:Sch)(p:Pth)(hto:s.to.length=s.fr.length)(hn : 0<=s.nd):al Go.Proofs.Tryz.prog 88 [.v (.ptr s.cells),.v (Pth.d p)] (ic (s.aB p)):=by
 refine fD fun hw=>?_
 simp only[dj,fH,Sch.cells,D.dx,gC,IntKind.has,IntKind.max,IntKind.signed,IntKind.bits] at hw;have hn2:s.nd<=9223372036854775807:=by simpa using hw.1.1.2
 have hsub:IntKind.i64.wrap (s.nd-1)=s.nd-1:=kr ⟨by simp[IntKind.min,IntKind.signed,IntKind.bits];omega,by simp[IntKind.max,IntKind.signed,IntKind.bits];omega⟩;refine aC Go.Proofs.Tryz.func88 Pw ?_;unfold HC ae zZ;simp only[go_sem];rw[hsub];refine af (qa _ _ _) rfl (.inl rfl) ?_;simp only[go_sem]
 have he:(bq p.st 0 (s.nd-1)&&decide (p.ed.length<=6))=!(!bq p.st 0 (s.nd-1) || decide ((6:Int)<(p.ed.length:Int))):=by
  rw[Bool.not_or,Bool.not_not,<-decide_not];congr 1;exact decide_eq_decide.2 (by omega)
 refine⟨fun h=>by simpa using h,fun h=>?_,fun h=>?_⟩
 ·unfold Sch.aB;rw[he,h];rfl
 ·refine af (S9 s p.st p.ed hto) rfl (.inl (by cases bn s.fr s.to p.st p.ed<;>rfl)) ?_
  have:s.aB p=bn s.fr s.to p.st p.ed:=by unfold Sch.aB;rw[he,h];rfl
  rw[this];cases bn s.fr s.to p.st p.ed<;>simp only[ic]<;>simp only[go_sem]
def Sch.qV(s:Sch)(p q:Pth):Bool :=
 match s.aB p,s.aB q with
 | some a,some b=>p.st == q.st&&a == b
 | _,_=>false
def Sch.gr(s:Sch):Bool:=bq s.nd 0 8&&(decide (s.fr.length<=8)&&(decide (s.to.length=s.fr.length)&&(cN s.nd s.fr&&cN s.nd s.to)))
def Sch.ir(s:Sch):Bool:=decide (s.lf.length<=8)&&decide (s.rt.length=s.lf.length)
def Sch.eqs(s:Sch)(n:Nat):Bool:=(List.range n).all fun i=>s.qV (s.lf.getD i Pth.zero) (s.rt.getD i Pth.zero)
def Sch.ok(s:Sch):Bool:=s.gr&&s.ir&&s.eqs s.lf.length
theorem Dp{s:Sch}{n:Nat}:s.eqs (n+1)=(s.eqs n&&s.qV (s.lf.getD n Pth.zero) (s.rt.getD n Pth.zero)):=by
 unfold Sch.eqs;rw[List.range_succ,List.all_append];simp
def z7:List Nat:=[0,2,3,4,5,6,7,8,9,83,84,85]
def HE:Sl:=ae Go.Proofs.Tryz.types Go.Proofs.Tryz.f86 z7 []
theorem Py:aD Go.Proofs.Tryz.prog Go.Proofs.Tryz.f86 z7 HE 1=true:=by decide +kernel
theorem GK(s:Sch):al Go.Proofs.Tryz.prog 86 [.v (.ptr s.cells)] (.bool s.ok):=by
 refine fD fun hw=>?_
 simp only[dj,fH,Sch.cells,D.dx,gC] at hw;refine aC Go.Proofs.Tryz.func86 Py ?_;unfold HE ae z7;simp only[go_sem];refine af (qa _ _ _) rfl (.inl rfl) ?_;simp only[go_sem];refine⟨fun h=>by simpa using h,(fun h=>by simp only[Bool.or_eq_false_iff,Bool.and_eq_true,Bool.not_eq_true',Bool.not_eq_false'] at h|-;exact h),?_⟩;refine bt (fun hg=>qc s.nd s.fr (by simp only[Bool.and_eq_true] at hg;have:=hg.1.1;unfold bq at this;simp at this;omega)) rfl (fun h=>h) (.inl rfl) ?_;simp only[go_sem];refine⟨fun h=>by simpa using h,?_⟩;refine bt (fun hg=>qc s.nd s.to (by simp only[Bool.and_eq_true] at hg;have:=hg.1.1.1;unfold bq at this;simp at this;omega)) rfl (fun h=>h) (.inl rfl) ?_;simp only[go_sem]
 have e1:s.gr=!(!bq s.nd 0 8 || decide ((8:Int)<(s.fr.length:Int)) || ((s.to.length:Int) != (s.fr.length:Int)) || !cN s.nd s.fr || !cN s.nd s.to):=by
  unfold Sch.gr;have a1:decide (s.fr.length<=8)=!decide ((8:Int)<(s.fr.length:Int)):=by rw[<-decide_not];exact decide_eq_decide.2 (by omega)
  have a2:decide (s.to.length=s.fr.length)=!((s.to.length:Int) != (s.fr.length:Int)):=by
   by_cases h:s.to.length=s.fr.length<;>simp[h]<;>omega
  rw[a1,a2];cases bq s.nd 0 8<;>cases decide ((8:Int)<(s.fr.length:Int))<;>cases((s.to.length:Int) != (s.fr.length:Int))<;>cases cN s.nd s.fr<;>cases cN s.nd s.to<;>rfl
 have e2:s.ir=!(decide ((8:Int)<(s.lf.length:Int)) || ((s.rt.length:Int) != (s.lf.length:Int))):=by
  unfold Sch.ir;have a1:decide (s.lf.length<=8)=!decide ((8:Int)<(s.lf.length:Int)):=by rw[<-decide_not];exact decide_eq_decide.2 (by omega)
  have a2:decide (s.rt.length=s.lf.length)=!((s.rt.length:Int) != (s.lf.length:Int)):=by
   by_cases h:s.rt.length=s.lf.length<;>simp[h]<;>omega
  rw[a1,a2,Bool.not_or]
 refine⟨fun h=>by simpa using h,fun h=>?_,fun h=>⟨fun h2=>by simpa using h2,fun h2=>?_,fun h2=>?_⟩⟩
 ·unfold Sch.ok;rw[e1,h];rfl
 ·unfold Sch.ok;rw[e2,h2];simp
 rw[h] at e1;rw[h2] at e2;have hto:s.to.length=s.fr.length:=by have:=e1;simp[Sch.gr] at this;exact this.2.2.1
 have hn : 0<=s.nd:=by have:=e1;simp[Sch.gr,bq] at this;omega
 have hrt:s.rt.length=s.lf.length:=by have:=e2;simp[Sch.ir] at this;exact this.2
 have hl:s.lf.length<=maxLen:=hw.1.2.2.2.1.1;clear h h2;refine aJ [2,3,4,5,6,7,8] (fun(i:Nat)=>[(11,.int .i64 i)]) (fun i=>i<=s.lf.length/\s.eqs i=true) (fun i=>s.lf.length-i) 0 (by simp only[go_sem];rfl) ⟨Nat.zero_le _,rfl⟩ rfl ?_;rintro i ⟨hi,ha⟩;simp only[go_sem];refine⟨fun h=>⟨h,by omega,af (mJ s (s.lf.getD i Pth.zero) hto hn) rfl (.inl (by cases s.aB (s.lf.getD i Pth.zero)<;>rfl)) ?_⟩,fun h=>?_⟩
 ·have hE:=Dp (s:=s) (n:=i)
  unfold Sch.qV at hE
  have neg:s.eqs (i+1)=false->false=s.ok:=fun hf=>by
   unfold Sch.ok;rw[e1,e2];symm;simp only[Bool.not_false,Bool.true_and];unfold Sch.eqs at hf|-
   rw[List.all_eq_false] at hf|-
   obtain⟨x,h1,h2⟩:=hf;exact⟨x,by rw[List.mem_range] at h1|-;omega,h2⟩
  have pos:s.eqs (i+1)=true->i+1<=s.lf.length/\s.eqs (i+1)=true:=fun hp=>⟨h,hp⟩
  cases hp:s.aB (s.lf.getD i Pth.zero) with
  | none =>
   rw[hp,ha] at hE;have hE':=neg (by rw[hE];cases s.aB (s.rt.getD i Pth.zero)<;>rfl);simp only[ic];simp only[go_sem];refine af (mJ s (s.rt.getD i Pth.zero) hto hn) rfl (.inl (by cases s.aB (s.rt.getD i Pth.zero)<;>rfl)) ?_;cases hq:s.aB (s.rt.getD i Pth.zero)<;>simp only[ic]<;>simp only[go_sem]
   all_goals exact hE'
  | some a =>
   rw[hp,ha] at hE;simp only[ic];simp only[go_sem];refine af (mJ s (s.rt.getD i Pth.zero) hto hn) rfl (.inl (by cases s.aB (s.rt.getD i Pth.zero)<;>rfl)) ?_;cases hq:s.aB (s.rt.getD i Pth.zero)<;>simp only[ic]<;>simp only[go_sem]
   ·rw[hq] at hE;exact neg hE
   ·rename_i b
    rw[hq] at hE;simp only[Bool.true_and] at hE;refine⟨fun h=>by simpa using h,fun h=>neg ?_,fun h=>?_⟩
    ·rw[hE,Bool.and_eq_false_iff]
     simp only[Bool.or_eq_true,bne_iff_ne] at h;exact h.imp beq_eq_false_iff_ne.2 beq_eq_false_iff_ne.2
    ·simp only[Bool.or_eq_false_iff,bne_eq_false_iff_eq] at h
     exact⟨i+1,pos (by rw[hE,Bool.and_eq_true];exact⟨beq_iff_eq.2 h.1,beq_iff_eq.2 h.2⟩),by omega,by rw[aH (by omega) hl]⟩
 ·rw[show i=s.lf.length by omega] at ha
  unfold Sch.ok;rw[e1,e2,ha];rfl
end Go.D3
