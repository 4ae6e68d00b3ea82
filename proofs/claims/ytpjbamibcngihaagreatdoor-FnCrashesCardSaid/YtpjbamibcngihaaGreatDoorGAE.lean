/- CONTRACTS: paths and schemas, the program's side. -/
import Derived.Test.YtpjbamibcngihaaGreatDoorGAC
namespace Go.D3
open Go
set_option maxHeartbeats 4000000
set_option maxRecDepth 100000
theorem Ox{α:Type}{f:α->D}{d:α}{l:List α}{k:Nat}{p:Path}:o8 k p (ae f d l)=ae f d l:=rfl
attribute [go_sem] Ox
def bG(fr to:List Int):Int->List Int->Option Int
 | x,[]=>some x
 | x,e::r=>if(aP e 0 ((fr.length:Int)-1)&&fr.getD e.toNat 0 == x)=true then bG fr to (to.getD e.toNat 0) r else none
def nK:Option Int->D
 | some x=>.au [.int .i64 x,.bool true]
 | none=>.au [.int .i64 0,.bool false]
theorem xn{fr to l:List Int}{x:Int}{i:Nat}(h:i<l.length):bG fr to x (l.drop i)=if(aP (l.getD i 0) 0 ((fr.length:Int)-1)&&fr.getD (l.getD i 0).toNat 0 == x)=true then bG fr to (to.getD (l.getD i 0).toNat 0) (l.drop (i+1)) else none:=by
 rw[List.drop_eq_getElem_cons h,bG,aS h]
theorem K6{n:Nat}(h:n<=maxLen):IntKind.i64.wrap ((n:Int)-1)=(n:Int)-1:=by
 simp only[maxLen] at h;exact iH ⟨by simp[IntKind.min,IntKind.signed,IntKind.bits];omega,by simp[IntKind.max,IntKind.signed,IntKind.bits];omega⟩
def Az:List Nat:=[0,1,2,6,7,9,10,11,12]
def Iy:Sl:=ak Go.Proofs.Tryz.types Go.Proofs.Tryz.f104 Az []
theorem QF:aF Go.Proofs.Tryz.prog Go.Proofs.Tryz.f104 Az Iy 3=true:=by decide +kernel
theorem Um(s:aa)(x:Int)(l:List Int)(hto:s.to.length=s.fr.length):aC Go.Proofs.Tryz.prog 104 [.v (.ptr s.cells),.v (.int .i64 x),.v (ints l)] (nK (bG s.fr s.to x l)):=by
 refine ei fun hw=>?_
 simp only[dc,eW,aa.cells,D.du,gu] at hw;obtain⟨⟨-,⟨hf,-⟩,-⟩,-,⟨hl,-⟩,-⟩:=hw;refine aQ Go.Proofs.Tryz.func104 QF ?_;unfold Iy ak Az;simp only[go_sem];refine aE [5] (fun(p:Nat×Int)=>[(1,.int .i64 p.2),(8,.int .i64 p.1)]) (fun p=>p.1<=l.length/\bG s.fr s.to p.2 (l.drop p.1)=bG s.fr s.to x l) (fun p=>l.length-p.1) (0,x) (by simp only[go_sem];rfl) ⟨Nat.zero_le _,rfl⟩ rfl ?_;rintro⟨i,y⟩ ⟨hi,ha⟩;simp only[go_sem];rw[K6 hf];refine⟨fun h=>⟨h,av (lD _ _ _) rfl (.inl rfl) ?_⟩,fun h=>?_⟩
 ·simp only[go_sem]
  have hstep:=xn (fr:=s.fr) (to:=s.to) (x:=y) h;simp only at ha hi;rw[hstep] at ha;have hin:aP (l.getD i 0) 0 ((s.fr.length:Int)-1)=true->0<=l.getD i 0/\l.getD i 0<s.fr.length:=by unfold aP;simp;omega
  refine⟨fun h1=>⟨h1,hin h1⟩,fun h1=>by simpa using h1,fun h1=>?_,fun h1=>?_⟩
  ·rw[<-ha,if_neg];rfl
   intro h2;simp only[Bool.and_eq_true,beq_iff_eq] at h2;rw[h2.1,h2.2] at h1;simp at h1
  ·have h2:(aP (l.getD i 0) 0 ((s.fr.length:Int)-1)&&s.fr.getD (l.getD i 0).toNat 0 == y)=true:=by
    simp only[Bool.or_eq_false_iff,Bool.not_eq_false',bne_eq_false_iff_eq] at h1;rw[h1.1,h1.2];simp
   rw[if_pos h2] at ha;simp only[Bool.and_eq_true] at h2;exact⟨by have:=hin h2.1;omega,(i+1,s.to.getD (l.getD i 0).toNat 0),⟨h,ha⟩,by show l.length-(i+1)<l.length-i;omega,by rw[aM h hl]⟩
 ·simp only at ha hi
  rw[show i=l.length by omega,List.drop_length] at ha;rw[<-ha];rfl
def aa.aU(s:aa)(p:U):Option Int:=if(aP p.st 0 (s.nd-1)&&decide (p.ed.length<=6))=true then bG s.fr s.to p.st p.ed else none
def Ay:List Nat:=[0,1,4,5,3]
def Ix:Sl:=ak Go.Proofs.Tryz.types Go.Proofs.Tryz.f75 Ay []
theorem QE:aF Go.Proofs.Tryz.prog Go.Proofs.Tryz.f75 Ay Ix 2=true:=by decide +kernel
theorem zn(s:aa)(p:U)(hto:s.to.length=s.fr.length)(hn : 0<=s.nd):aC Go.Proofs.Tryz.prog 75 [.v (.ptr s.cells),.v (U.d p)] (nK (s.aU p)):=by
 refine ei fun hw=>?_
 simp only[dc,eW,aa.cells,D.du,gu,IntKind.has,IntKind.max,IntKind.signed,IntKind.bits] at hw;have hn2:s.nd<=9223372036854775807:=by simpa using hw.1.1.2
 have hsub:IntKind.i64.wrap (s.nd-1)=s.nd-1:=iH ⟨by simp[IntKind.min,IntKind.signed,IntKind.bits];omega,by simp[IntKind.max,IntKind.signed,IntKind.bits];omega⟩;refine aQ Go.Proofs.Tryz.func75 QE ?_;unfold Ix ak Ay;simp only[go_sem];rw[hsub];refine av (lD _ _ _) rfl (.inl rfl) ?_;simp only[go_sem]
 have he:(aP p.st 0 (s.nd-1)&&decide (p.ed.length<=6))=!(!aP p.st 0 (s.nd-1) || decide ((6:Int)<(p.ed.length:Int))):=by
  rw[Bool.not_or,Bool.not_not,<-decide_not];congr 1;exact decide_eq_decide.2 (by omega)
 refine⟨fun h=>by simpa using h,fun h=>?_,fun h=>?_⟩
 ·unfold aa.aU;rw[he,h];rfl
 ·refine av (Um s p.st p.ed hto) rfl (.inl (by cases bG s.fr s.to p.st p.ed<;>rfl)) ?_
  have:s.aU p=bG s.fr s.to p.st p.ed:=by unfold aa.aU;rw[he,h];rfl
  rw[this];cases bG s.fr s.to p.st p.ed<;>simp only[nK]<;>simp only[go_sem]
def aa.qP(s:aa)(p q:U):Bool :=
 match s.aU p,s.aU q with
 | some a,some b=>p.st == q.st&&a == b
 | _,_=>false
def aa.fP(s:aa):Bool:=aP s.nd 0 8&&(decide (s.fr.length<=8)&&(decide (s.to.length=s.fr.length)&&(bV s.nd s.fr&&bV s.nd s.to)))
def aa.iw(s:aa):Bool:=decide (s.lf.length<=8)&&decide (s.rt.length=s.lf.length)
def aa.eqs(s:aa)(n:Nat):Bool:=(List.range n).all fun i=>s.qP (s.lf.getD i U.zero) (s.rt.getD i U.zero)
def aa.ok(s:aa):Bool:=s.fP&&s.iw&&s.eqs s.lf.length
theorem Ee{s:aa}{n:Nat}:s.eqs (n+1)=(s.eqs n&&s.qP (s.lf.getD n U.zero) (s.rt.getD n U.zero)):=by
 unfold aa.eqs;rw[List.range_succ,List.all_append];simp
def AB:List Nat:=[0,2,3,4,5,6,7,8,9,83,84,85]
def IA:Sl:=ak Go.Proofs.Tryz.types Go.Proofs.Tryz.f44 AB []
theorem QH:aF Go.Proofs.Tryz.prog Go.Proofs.Tryz.f44 AB IA 1=true:=by decide +kernel
theorem zp(s:aa):aC Go.Proofs.Tryz.prog 44 [.v (.ptr s.cells)] (.bool s.ok):=by
 refine ei fun hw=>?_
 simp only[dc,eW,aa.cells,D.du,gu] at hw;refine aQ Go.Proofs.Tryz.func44 QH ?_;unfold IA ak AB;simp only[go_sem];refine av (lD _ _ _) rfl (.inl rfl) ?_;simp only[go_sem];refine⟨fun h=>by simpa using h,(fun h=>by simp only[Bool.or_eq_false_iff,Bool.and_eq_true,Bool.not_eq_true',Bool.not_eq_false'] at h|-;exact h),?_⟩;refine bt (fun hg=>uZ s.nd s.fr (by simp only[Bool.and_eq_true] at hg;have:=hg.1.1;unfold aP at this;simp at this;omega)) rfl (fun h=>h) (.inl rfl) ?_;simp only[go_sem];refine⟨fun h=>by simpa using h,?_⟩;refine bt (fun hg=>uZ s.nd s.to (by simp only[Bool.and_eq_true] at hg;have:=hg.1.1.1;unfold aP at this;simp at this;omega)) rfl (fun h=>h) (.inl rfl) ?_;simp only[go_sem]
 have e1:s.fP=!(!aP s.nd 0 8 || decide ((8:Int)<(s.fr.length:Int)) || ((s.to.length:Int) != (s.fr.length:Int)) || !bV s.nd s.fr || !bV s.nd s.to):=by
  unfold aa.fP;have a1:decide (s.fr.length<=8)=!decide ((8:Int)<(s.fr.length:Int)):=by rw[<-decide_not];exact decide_eq_decide.2 (by omega)
  have a2:decide (s.to.length=s.fr.length)=!((s.to.length:Int) != (s.fr.length:Int)):=by
   by_cases h:s.to.length=s.fr.length<;>simp[h]<;>omega
  rw[a1,a2];cases aP s.nd 0 8<;>cases decide ((8:Int)<(s.fr.length:Int))<;>cases((s.to.length:Int) != (s.fr.length:Int))<;>cases bV s.nd s.fr<;>cases bV s.nd s.to<;>rfl
 have e2:s.iw=!(decide ((8:Int)<(s.lf.length:Int)) || ((s.rt.length:Int) != (s.lf.length:Int))):=by
  unfold aa.iw;have a1:decide (s.lf.length<=8)=!decide ((8:Int)<(s.lf.length:Int)):=by rw[<-decide_not];exact decide_eq_decide.2 (by omega)
  have a2:decide (s.rt.length=s.lf.length)=!((s.rt.length:Int) != (s.lf.length:Int)):=by
   by_cases h:s.rt.length=s.lf.length<;>simp[h]<;>omega
  rw[a1,a2,Bool.not_or]
 refine⟨fun h=>by simpa using h,fun h=>?_,fun h=>⟨fun h2=>by simpa using h2,fun h2=>?_,fun h2=>?_⟩⟩
 ·unfold aa.ok;rw[e1,h];rfl
 ·unfold aa.ok;rw[e2,h2];simp
 rw[h] at e1;rw[h2] at e2;have hto:s.to.length=s.fr.length:=by have:=e1;simp[aa.fP] at this;exact this.2.2.1
 have hn : 0<=s.nd:=by have:=e1;simp[aa.fP,aP] at this;omega
 have hrt:s.rt.length=s.lf.length:=by have:=e2;simp[aa.iw] at this;exact this.2
 have hl:s.lf.length<=maxLen:=hw.1.2.2.2.1.1;clear h h2;refine aE [2,3,4,5,6,7,8] (fun(i:Nat)=>[(11,.int .i64 i)]) (fun i=>i<=s.lf.length/\s.eqs i=true) (fun i=>s.lf.length-i) 0 (by simp only[go_sem];rfl) ⟨Nat.zero_le _,rfl⟩ rfl ?_;rintro i ⟨hi,ha⟩;simp only[go_sem];refine⟨fun h=>⟨h,by omega,av (zn s (s.lf.getD i U.zero) hto hn) rfl (.inl (by cases s.aU (s.lf.getD i U.zero)<;>rfl)) ?_⟩,fun h=>?_⟩
 ·have hE:=Ee (s:=s) (n:=i)
  unfold aa.qP at hE
  have neg:s.eqs (i+1)=false->false=s.ok:=fun hf=>by
   unfold aa.ok;rw[e1,e2];symm;simp only[Bool.not_false,Bool.true_and];unfold aa.eqs at hf|-
   rw[List.all_eq_false] at hf|-
   obtain⟨x,h1,h2⟩:=hf;exact⟨x,by rw[List.mem_range] at h1|-;omega,h2⟩
  have pos:s.eqs (i+1)=true->i+1<=s.lf.length/\s.eqs (i+1)=true:=fun hp=>⟨h,hp⟩
  cases hp:s.aU (s.lf.getD i U.zero) with
  | none =>
   rw[hp,ha] at hE;have hE':=neg (by rw[hE];cases s.aU (s.rt.getD i U.zero)<;>rfl);simp only[nK];simp only[go_sem];refine av (zn s (s.rt.getD i U.zero) hto hn) rfl (.inl (by cases s.aU (s.rt.getD i U.zero)<;>rfl)) ?_;cases hq:s.aU (s.rt.getD i U.zero)<;>simp only[nK]<;>simp only[go_sem]
   all_goals exact hE'
  | some a =>
   rw[hp,ha] at hE;simp only[nK];simp only[go_sem];refine av (zn s (s.rt.getD i U.zero) hto hn) rfl (.inl (by cases s.aU (s.rt.getD i U.zero)<;>rfl)) ?_;cases hq:s.aU (s.rt.getD i U.zero)<;>simp only[nK]<;>simp only[go_sem]
   ·rw[hq] at hE;exact neg hE
   ·rename_i b
    rw[hq] at hE;simp only[Bool.true_and] at hE;refine⟨fun h=>by simpa using h,fun h=>neg ?_,fun h=>?_⟩
    ·rw[hE,Bool.and_eq_false_iff]
     simp only[Bool.or_eq_true,bne_iff_ne] at h;exact h.imp beq_eq_false_iff_ne.2 beq_eq_false_iff_ne.2
    ·simp only[Bool.or_eq_false_iff,bne_eq_false_iff_eq] at h
     exact⟨i+1,pos (by rw[hE,Bool.and_eq_true];exact⟨beq_iff_eq.2 h.1,beq_iff_eq.2 h.2⟩),by omega,by rw[aM (by omega) hl]⟩
 ·rw[show i=s.lf.length by omega] at ha
  unfold aa.ok;rw[e1,e2,ha];rfl
end Go.D3
