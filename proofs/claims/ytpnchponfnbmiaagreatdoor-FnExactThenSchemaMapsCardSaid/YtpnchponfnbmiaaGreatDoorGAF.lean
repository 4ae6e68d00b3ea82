/- CONTRACTS: partitions, the reference's side. -/
import Derived.Test.YtpnchponfnbmiaaGreatDoorGAE
namespace Go.D3
open Go
set_option maxHeartbeats 4000000
set_option maxRecDepth 100000
theorem Di{s:Sch}{p:Pth}{y:Int}(h:s.aB p=some y):(0<=p.st/\p.st<s.nd)/\p.ed.length<=6/\bn s.fr s.to p.st p.ed=some y:=by
 unfold Sch.aB at h;split at h
 ·rename_i hc
  simp only[Bool.and_eq_true,bq,decide_eq_true_eq] at hc;exact⟨⟨hc.1.1,by omega⟩,hc.2,h⟩
 ·cases h
theorem ok_eq{s:Sch}(h:s.ok=true){i:Nat}(hi:i<s.lf.length):∃y,s.aB (s.lf.getD i Pth.zero)=some y/\s.aB (s.rt.getD i Pth.zero)=some y/\(s.lf.getD i Pth.zero).st=(s.rt.getD i Pth.zero).st:=by
 unfold Sch.ok at h;rw[Bool.and_eq_true] at h;have:=List.all_eq_true.1 h.2 i (List.mem_range.2 hi);unfold Sch.qV at this;cases hp:s.aB (s.lf.getD i Pth.zero) with
 | none=>rw[hp] at this;cases this
 | some a =>
  cases hq:s.aB (s.rt.getD i Pth.zero) with
  | none=>rw[hp,hq] at this;cases this
  | some b =>
   rw[hp,hq] at this;simp only[Bool.and_eq_true,beq_iff_eq] at this;exact⟨a,rfl,by rw[this.2],this.1⟩
theorem eB{s:Sch}(h:s.ok=true):s.gr=true/\s.lf.length<=8/\s.rt.length=s.lf.length:=by
 unfold Sch.ok Sch.ir at h;simp only[Bool.and_eq_true,decide_eq_true_eq] at h;exact⟨h.1.1,h.1.2.1,h.1.2.2⟩
def bm.all(s:Sch):bm->List bA->Option bm
 | d,[]=>some d
 | d,c::r=>if d.can s c=true then bm.all s (d.app s c) r else none
end Go.D3
namespace Go.D3
open Go
set_option maxHeartbeats 4000000
set_option maxRecDepth 100000
theorem DB{fr to:List Int}:∀{l:List Int}{x:Int},cN fr.length l=false->bn fr to x l=none
 | [],x,h=>by cases h
 | e::l,x,h=>by
  rw[bn];split
  ·rename_i hc
   simp only[Bool.and_eq_true,bq,decide_eq_true_eq] at hc;refine DB ?_;unfold cN at h|-
   rw[List.all_cons,Bool.and_eq_false_iff] at h;rcases h with h | h
   ·simp at h;omega
   ·exact h
  ·rfl
def Bw:List Nat:=[0,1,4,2,3,5,6]
def I5:Sl:=ae Go.Proofs.Tryz.types Go.Proofs.Tryz.f81 Bw []
theorem QW:aD Go.Proofs.Tryz.prog Go.Proofs.Tryz.f81 Bw I5 2=true:=by decide +kernel
theorem yW(s:Sch)(p:Pth)(hto:s.to.length=s.fr.length)(hn : 0<=s.nd):al Go.Proofs.Tryz.prog 81 [.v (Sch.d s),.v (Pth.d p)] (.bool (s.aB p).isSome):=by
 refine fD fun hw=>?_
 simp only[dj,fH,Sch.d,Pth.d,Sch.cells,Pth.cells,D.dx,gC,IntKind.has,IntKind.max,IntKind.signed,IntKind.bits] at hw;have hn2:s.nd<=9223372036854775807:=by simpa using hw.1.1.2
 have hl:p.ed.length<=maxLen:=hw.2.1.2.1.1;have hsub:IntKind.i64.wrap (s.nd-1)=s.nd-1:=kr ⟨by simp[IntKind.min,IntKind.signed,IntKind.bits];omega,by simp[IntKind.max,IntKind.signed,IntKind.bits];omega⟩;refine aC Go.Proofs.Tryz.func81 QW ?_;unfold I5 ae Bw;simp only[go_sem];rw[hsub];refine af (yV _ _ _) rfl (.inl rfl) ?_;simp only[go_sem]
 have he:(bq p.st 0 (s.nd-1)&&decide (p.ed.length<=6))=!(!bq p.st 0 (s.nd-1) || decide ((6:Int)<(p.ed.length:Int))):=by
  rw[Bool.not_or,Bool.not_not,<-decide_not];congr 1;exact decide_eq_decide.2 (by omega)
 refine⟨fun h=>by simpa using h,bt (fun _=>qe _ _) rfl (fun h=>h) (.inl rfl) ?_⟩;simp only[go_sem];refine⟨(fun h=>by simp only[Bool.or_eq_false_iff,Bool.and_eq_true,Bool.not_eq_true',Bool.not_eq_false'] at h|-;exact h),fun h=>?_,fun h=>?_⟩
 ·unfold Sch.aB
  rw[he];rw[Bool.or_eq_true,Bool.not_eq_true'] at h;rcases h with h | h
  ·rw[h];rfl
  ·rw[DB h];simp
 ·rw[Bool.or_eq_false_iff,Bool.not_eq_false'] at h
  have hE:s.aB p=bn s.fr s.to p.st p.ed:=by unfold Sch.aB;rw[he,h.1];rfl
  rw[hE];have hm:=fun i hi=>fP h.2 (i:=i) hi
  refine aJ [] (fun(q:Nat×Int)=>[(5,.int .i64 q.2),(6,.int .i64 q.1)]) (fun q=>q.1<=p.ed.length/\bn s.fr s.to q.2 (p.ed.drop q.1)=bn s.fr s.to p.st p.ed) (fun q=>p.ed.length-q.1) (0,p.st) (by simp only[go_sem];rfl) ⟨Nat.zero_le _,rfl⟩ rfl ?_;rintro⟨i,y⟩ ⟨hi,ha⟩;simp only at hi ha;simp only[go_sem];refine⟨fun h2=>?_,fun h2=>?_⟩
  ·have hmi:=hm i h2
   rw[tc h2] at ha;have hin:bq (p.ed.getD i 0) 0 ((s.fr.length:Int)-1)=true:=by unfold bq;simp only[Bool.and_eq_true,decide_eq_true_eq];omega
   rw[hin,Bool.true_and] at ha;refine⟨h2,hmi,fun h3=>?_,fun h3=>⟨h2,by omega,(i+1,s.to.getD (p.ed.getD i 0).toNat 0),⟨h2,?_⟩,by show p.ed.length-(i+1)<p.ed.length-i;omega,by rw[aH h2 hl]⟩⟩
   ·rw[bne_iff_ne] at h3
    rw[if_neg (by rw[beq_iff_eq];exact h3)] at ha;rw[<-ha];rfl
   ·rw[bne_eq_false_iff_eq] at h3
    rw[if_pos (by rw[beq_iff_eq];exact h3)] at ha;exact ha
  ·rw[show i=p.ed.length by omega,List.drop_length] at ha
   rw[<-ha];rfl
theorem pk{fr to:List Int}:∀{l:List Int}{x y:Int},bn fr to x l=some y->y=(if l=[] then x else to.getD (l.getD (l.length-1) 0).toNat 0)/\∀i,i<l.length->0<=l.getD i 0/\l.getD i 0<fr.length
 | [],x,y,h=>by rw[bn] at h;injection h with h;subst h;exact⟨rfl,fun i hi=>by simp at hi⟩
 | e::l,x,y,h=>by
  rw[bn] at h;split at h
  ·rename_i hc
   simp only[Bool.and_eq_true,bq,decide_eq_true_eq] at hc;obtain⟨h1,h2⟩:=pk h;refine⟨?_,fun i hi=>?_⟩
   ·rw[if_neg (by simp),h1]
    cases l with
    | nil=>rfl
    | cons f l=>rw[if_neg (by simp)];rfl
   ·cases i with
    | zero=>exact⟨hc.1.1,by show e<_;omega⟩
    | succ i=>exact h2 i (by simpa using hi)
  ·cases h
def Bs:List Nat:=[0,1,4,2,3]
def I1:Sl:=ae Go.Proofs.Tryz.types Go.Proofs.Tryz.f82 Bs []
theorem QS:aD Go.Proofs.Tryz.prog Go.Proofs.Tryz.f82 Bs I1 2=true:=by decide +kernel
theorem mM(s:Sch)(p:Pth)(y:Int)(hto:s.to.length=s.fr.length)(h:s.aB p=some y):al Go.Proofs.Tryz.prog 82 [.v (Sch.d s),.v (Pth.d p)] (.int .i64 y):=by
 obtain⟨_,h6,hf⟩:=Di h;obtain⟨hy,hr⟩:=pk hf;refine aC Go.Proofs.Tryz.func82 QS ?_;unfold I1 ae Bs;simp only[go_sem];refine⟨fun h2=>?_,fun h2=>?_⟩
 ·rw[hy,if_pos (List.length_eq_zero_iff.1 (by simpa using h2))]
 ·have h2:p.ed.length≠0:=by simpa using h2
  have hne:¬p.ed=[]:=fun e=>h2 (by rw[e];rfl)
  rw[if_neg hne] at hy;rw[J4 (by simp only[maxLen];omega)];have e1:((p.ed.length:Int)-1).toNat=p.ed.length-1:=by omega
  have:=hr (p.ed.length-1) (by omega);rw[e1];exact⟨by omega,by omega,by rw[hy]⟩
end Go.D3
namespace Go.D3
open Go
theorem kL{fr to:List Int}:∀{l m:List Int}{x:Int},bn fr to x (l++m)=(bn fr to x l).bind fun y=>bn fr to y m
 | [],m,x=>rfl
 | e::l,m,x=>by
  rw[List.cons_append,bn,bn];split
  ·exact kL
  ·rfl
theorem Md{fr to:List Int}{x:Int}{e:Nat}(he:e<fr.length)(hx:fr.getD e 0=x):bn fr to x [(e:Int)]=some (to.getD e 0):=by
 rw[bn,if_pos]
 ·rfl
 ·simp only[bq,Bool.and_eq_true,decide_eq_true_eq,beq_iff_eq,Int.toNat_natCast]
  exact⟨by omega,hx⟩
theorem bx{s:Sch}{p:Pth}{y:Int}:s.aB p=some y↔(0<=p.st/\p.st<=s.nd-1)/\p.ed.length<=6/\bn s.fr s.to p.st p.ed=some y:=by
 unfold Sch.aB;rw[<-and_assoc];constructor
 ·intro h
  split at h
  ·rename_i hc
   simp only[bq,Bool.and_eq_true,decide_eq_true_eq] at hc;exact⟨hc,h⟩
  ·cases h
 ·rintro⟨h1,h2⟩
  rw[if_pos (by simp only[bq,Bool.and_eq_true,decide_eq_true_eq];exact h1),h2]
theorem pe{s:Sch}{x:Int}(h0 : 0<=x)(h1:x<s.nd):s.aB ⟨x,[]⟩=some x:=bx.2 ⟨⟨h0,by show x<=_;omega⟩,Nat.zero_le _,rfl⟩
theorem nD{s:Sch}{p:Pth}{e:Nat}(h:s.aB p=some (s.fr.getD e 0))(he:e<s.fr.length)(hl:p.ed.length<6):s.aB ⟨p.st,p.ed++[(e:Int)]⟩=some (s.to.getD e 0):=by
 rw[bx] at h|-
 refine⟨h.1,by rw[List.length_append];exact hl,?_⟩;show bn s.fr s.to p.st (p.ed++_)=_;rw[kL,h.2.2];exact Md he rfl
theorem L3{s:Sch}{x:Int}{l:List Int}{e:Int}{y:Int}(h:s.aB ⟨x,l++[e]⟩=some y):∃k:Nat,e=k/\k<s.fr.length/\s.aB ⟨x,l⟩=some (s.fr.getD k 0):=by
 rw[bx] at h;obtain⟨h1,h2,h3⟩:=h;dsimp only at h1 h2 h3;rw[kL] at h3;cases hf:bn s.fr s.to x l with
 | none=>rw[hf] at h3;cases h3
 | some z =>
  rw[hf,Option.bind_some,bn] at h3;split at h3
  ·rename_i hc
   simp only[bq,Bool.and_eq_true,decide_eq_true_eq,beq_iff_eq] at hc;refine⟨e.toNat,by omega,by omega,bx.2 ⟨h1,?_,?_⟩⟩
   ·show l.length<=6
    rw[List.length_append,List.length_singleton] at h2;omega
   ·show bn s.fr s.to x l=_
    rw[hf,hc.2]
  ·cases h3
structure eU(s:Sch)(out:List Pth)(i:Nat):Prop where
 v:∀p∈out,∃y,s.aB p=some y
 z:∀x:Nat,(x:Int)<s.nd->(⟨x,[]⟩:Pth)∈out
 c:∀j,j<i->∀e:Nat,e<s.fr.length->(out.getD j Pth.zero).ed.length<6->s.aB (out.getD j Pth.zero)=some (s.fr.getD e 0)->(⟨(out.getD j Pth.zero).st,(out.getD j Pth.zero).ed++[(e:Int)]⟩:Pth)∈out
structure di(s:Sch)(out:List Pth):Prop where
 v:∀p∈out,∃y,s.aB p=some y
 a:∀p y,s.aB p=some y->p∈out
theorem eU.done{s:Sch}{out:List Pth}{i:Nat}(h:eU s out i)(hi:out.length<=i):di s out:=by
 refine⟨h.v,?_⟩
 have key:∀(n:Nat)(x:Int)(l:List Int),l.length=n->∀y,s.aB ⟨x,l⟩=some y->(⟨x,l⟩:Pth)∈out:=by
  intro n;induction n with
  | zero =>
   intro x l hl y hy;obtain rfl:=List.length_eq_zero_iff.1 hl;obtain⟨h1,_,_⟩:=bx.1 hy;dsimp only at h1;have:=h.z x.toNat (by omega)
   rwa [show((x.toNat:Nat):Int)=x by omega] at this
  | succ n ih =>
   intro x l hl y hy;have hne:l≠[]:=fun e=>by rw[e] at hl;cases hl
   rw[<-List.dropLast_concat_getLast hne] at hy|-
   obtain⟨k,hk,hk2,hp⟩:=L3 hy;have hm:=ih x l.dropLast (by rw[List.length_dropLast];omega) _ hp;obtain⟨j,hj,hg⟩:=List.getElem_of_mem hm;have hgd:out.getD j Pth.zero=⟨x,l.dropLast⟩:=by rw[aO hj,hg]
   have h6:=(bx.1 hy).2.1;rw[hk]
   have:=h.c j (by omega) k hk2 (by
    rw[hgd];simp only[List.length_append,List.length_dropLast,List.length_singleton] at h6|-
    omega) (by rw[hgd];exact hp)
   rwa [hgd] at this
 exact fun p y hy=>key _ p.st p.ed rfl y hy
def lq(l:List Pth)(x:Int)(ed:List Int):Int:=if l.findIdx (fun p=>p.st == x&&p.ed == ed)<l.length then((l.findIdx (fun p=>p.st == x&&p.ed == ed):Nat):Int) else -1
theorem rL{l:List Pth}{x:Int}{ed:List Int}(h:(⟨x,ed⟩:Pth)∈l):∃j:Nat,lq l x ed=j/\j<l.length/\l.getD j Pth.zero=⟨x,ed⟩:=by
 have hl:l.findIdx (fun p=>p.st == x&&p.ed == ed)<l.length:=List.findIdx_lt_length_of_exists ⟨_,h,by simp⟩;refine⟨_,by unfold lq;rw[if_pos hl],hl,?_⟩;have:=List.findIdx_getElem (w:=hl);rw[<-aO (d:=Pth.zero) hl] at this;generalize l.getD (l.findIdx (fun p=>p.st == x&&p.ed == ed)) Pth.zero=q at this;simp only[Bool.and_eq_true,beq_iff_eq] at this;cases q;dsimp only at this;rw[this.1,this.2]
structure sv(s:Sch)(list:List Pth)(cl:List Int):Prop where
 len:cl.length=list.length
 ge:∀i,i<list.length->0<=cl.getD i 0/\cl.getD i 0<list.length
 f:∀i (m:Nat),i<list.length->(∀q,q<i->cl.getD q 0<m)->cl.getD i 0<=m
 same:∀i j,i<list.length->j<list.length->cl.getD i 0=cl.getD j 0->(list.getD i Pth.zero).st=(list.getD j Pth.zero).st/\s.aB (list.getD i Pth.zero)=s.aB (list.getD j Pth.zero)
theorem LC{s:Sch}{list:List Pth}{P:List (List Int)}{cl:List Int}(h:lL (ch (bw list.length) P) cl)
  (hP:∀p∈P,∃a b:Nat,a<list.length/\b<list.length/\p.getD 0 0=a/\p.getD 1 0=b/\(list.getD a Pth.zero).st=(list.getD b Pth.zero).st/\s.aB (list.getD a Pth.zero)=s.aB (list.getD b Pth.zero)):sv s list cl:=by
 have hl:(ch (bw list.length) P).length=list.length:=by rw[ri,dI]
 refine⟨by rw[h.len,hl],fun i hi=>by have:=h.ge i (by omega);rwa [hl] at this,fun i m hi=>h.f i m (by omega),fun i j hi hj e=>?_⟩
 have:=h.same (fun i=>((list.getD i Pth.zero).st,s.aB (list.getD i Pth.zero))) (fun p hp=>by
  obtain⟨a,b,h1,h2,h3,h4,h5,h6⟩:=hP p hp
  exact⟨a,b,h1,h2,h3,h4,by rw[h5,h6]⟩) hi hj e
 exact⟨congrArg Prod.fst this,congrArg Prod.snd this⟩
structure iE(s:Sch)(list:List Pth)(cl:List Int)(i:Nat)(least:List Pth):Prop where
 lt:∀j,j<i->cl.getD j 0<least.length
 ex:∀k,k<least.length->∃j,j<i/\j<list.length/\cl.getD j 0=k/\least.getD k Pth.zero=list.getD j Pth.zero
 gz:∀k,k<least.length->(least.getD k Pth.zero).ed.length<6
theorem iE.zero{s:Sch}{list:List Pth}{cl:List Int}:iE s list cl 0 []:=⟨fun _ hj=>absurd hj (Nat.not_lt_zero _),fun _ hk=>absurd hk (Nat.not_lt_zero _),fun _ hk=>absurd hk (Nat.not_lt_zero _)⟩
theorem iE.old{s:Sch}{list:List Pth}{cl:List Int}{i:Nat}{least:List Pth}(hc:sv s list cl)(h:iE s list cl i least)(hi:i<list.length)(hn:cl.getD i 0≠least.length):iE s list cl (i+1) least:=by
 refine⟨fun j hj=>?_,fun k hk=>?_,h.gz⟩
 ·by_cases hji:j<i
  ·exact h.lt j hji
  ·rw[show j=i by omega]
   have:=hc.f i least.length hi h.lt;omega
 ·obtain⟨j,h1,h2⟩:=h.ex k hk
  exact⟨j,by omega,h2⟩
theorem iE.new{s:Sch}{list:List Pth}{cl:List Int}{i:Nat}{least:List Pth}(h:iE s list cl i least)(hi:i<list.length)(he:cl.getD i 0=least.length)(h6:(list.getD i Pth.zero).ed.length<6):iE s list cl (i+1) (least++[list.getD i Pth.zero]):=by
 have hlt:∀{k},k<least.length->(least++[list.getD i Pth.zero]).getD k Pth.zero=least.getD k Pth.zero:=fun hk=>by rw[fV (by omega),if_neg (by omega)]
 have hel:(least++[list.getD i Pth.zero]).getD least.length Pth.zero=list.getD i Pth.zero:=by rw[fV (Nat.le_refl _),if_pos rfl]
 refine⟨fun j hj=>?_,fun k hk=>?_,fun k hk=>?_⟩
 ·rw[List.length_append,List.length_singleton]
  by_cases hji:j<i
  ·have:=h.lt j hji;omega
  ·rw[show j=i by omega];omega
 ·rw[List.length_append,List.length_singleton] at hk
  by_cases hkl:k<least.length
  ·obtain⟨j,h1,h2,h3,h4⟩:=h.ex k hkl
   exact⟨j,by omega,h2,h3,by rw[hlt hkl,h4]⟩
  ·obtain rfl:k=least.length:=by omega
   exact⟨i,by omega,hi,he,hel⟩
 ·rw[List.length_append,List.length_singleton] at hk
  by_cases hkl:k<least.length
  ·rw[hlt hkl];exact h.gz k hkl
  ·obtain rfl:k=least.length:=by omega
   rw[hel];exact h6
theorem iE.at'{s:Sch}{list:List Pth}{cl:List Int}{least:List Pth}(hA:di s list)(hc:sv s list cl)(h:iE s list cl list.length least){x:Int}{ed:List Int}{y:Int}(hy:s.aB ⟨x,ed⟩=some y) :
  ∃j k:Nat,lq list x ed=j/\j<cl.length/\cl.getD j 0=k/\k<least.length/\(least.getD k Pth.zero).st=x/\s.aB (least.getD k Pth.zero)=some y/\(least.getD k Pth.zero).ed.length<6:=by
 obtain⟨j,h1,h2,h3⟩:=rL (hA.a _ _ hy);have h4:=(hc.ge j h2).1;have h5:=h.lt j h2;obtain⟨k,hk⟩:∃k:Nat,cl.getD j 0=k:=⟨(cl.getD j 0).toNat,by omega⟩;obtain⟨j',_,h6,h7,h8⟩:=h.ex k (by omega);obtain⟨h9,h10⟩:=hc.same j' j h6 h2 (by rw[h7,hk]);refine⟨j,k,h1,by rw[hc.len];exact h2,hk,by omega,?_,?_,h.gz k (by omega)⟩
 ·rw[h8,h9,h3]
 ·rw[h8,h10,h3,hy]
end Go.D3
namespace Go.D3
open Go
def im(i:Nat):List Pth:=(List.range i).map fun x:Nat=>⟨x,[]⟩
theorem nV{i:Nat}:(im i).length=i:=by simp[im]
theorem EW{i:Nat}:im (i+1)=im i++[⟨i,[]⟩]:=by unfold im;rw[List.range_succ,List.map_append];rfl
theorem EX{s:Sch}(hs:gD s):eU s (im s.nd.toNat) 0:=by
 have h0:=hs.n0;refine⟨fun p hp=>?_,fun x hx=>?_,fun j hj=>by omega⟩
 ·obtain⟨x,hx,rfl⟩:=List.mem_map.1 hp
  rw[List.mem_range] at hx;exact⟨x,pe (by omega) (by omega)⟩
 ·exact List.mem_map.2 ⟨x,List.mem_range.2 (by omega),rfl⟩
theorem eU.gz{s:Sch}{o:List Pth}{i:Nat}(h:eU s o i)(h6:¬(o.getD i Pth.zero).ed.length<6):eU s o (i+1):=by
 refine⟨h.v,h.z,fun j hj e he hl hE=>?_⟩;by_cases hji:j<i
 ·exact h.c j hji e he hl hE
 ·rw[show j=i by omega] at hl;exact absurd hl h6
theorem eU.add{s:Sch}{o:List Pth}{i:Nat}(h:eU s o i)(hi:i<=o.length){q:Pth}{y:Int}(hq:s.aB q=some y):eU s (o++[q]) i:=by
 refine⟨fun p hp=>?_,fun x hx=>List.mem_append_left _ (h.z x hx),fun j hj e he=>?_⟩
 ·rcases List.mem_append.1 hp with hp | hp
  ·exact h.v p hp
  ·rw[List.mem_singleton] at hp;subst hp;exact⟨y,hq⟩
 ·rw[fV (by omega),if_neg (by omega)]
  exact fun hl hE=>List.mem_append_left _ (h.c j hj e he hl hE)
theorem eU.next{s:Sch}{o:List Pth}{i:Nat}(h:eU s o i)(hc:∀e:Nat,e<s.fr.length->s.aB (o.getD i Pth.zero)=some (s.fr.getD e 0)->(⟨(o.getD i Pth.zero).st,(o.getD i Pth.zero).ed++[(e:Int)]⟩:Pth)∈o):eU s o (i+1):=by
 refine⟨h.v,h.z,fun j hj e he hl hE=>?_⟩;by_cases hji:j<i
 ·exact h.c j hji e he hl hE
 ·obtain rfl:j=i:=by omega
  exact hc e he hE
theorem eU.at'{s:Sch}{o:List Pth}{i j:Nat}(h:eU s o i)(hj:j<o.length):∃y,s.aB (o.getD j Pth.zero)=some y:=by
 rw[aO hj];exact h.v _ (List.getElem_mem _)
theorem di.at'{s:Sch}{o:List Pth}{j:Nat}(h:di s o)(hj:j<o.length):∃y,s.aB (o.getD j Pth.zero)=some y:=by
 rw[aO hj];exact h.v _ (List.getElem_mem _)
theorem di.perm{s:Sch}{o l:List Pth}(h:di s l)(hp:o.Perm l):di s o:=⟨fun p q=>h.v p (hp.mem_iff.1 q),fun p y hy=>hp.mem_iff.2 (h.a p y hy)⟩
def nb(o:List Pth)(k:Nat):List Pth:=(o.set k (o.getD (k-1) Pth.zero)).set (k-1) (o.getD k Pth.zero)
theorem Vm{o:List Pth}{k:Nat}(hk:k<o.length):(nb o k).Perm o:=by
 unfold nb;rw[aO hk,aO (show k-1<o.length by omega)];exact List.set_set_perm hk (by omega)
def vC(n:Nat)(P:List (List Int)):Prop:=∀p∈P,∃a b:Nat,p=[(a:Int),(b:Int)]/\a<n/\b<n
theorem vC.get{n:Nat}{P:List (List Int)}(h:vC n P){k:Nat}(hk:k<P.length):∃a b:Nat,P.getD k []=[(a:Int),(b:Int)]/\a<n/\b<n:=by
 rw[aO hk];exact h _ (List.getElem_mem _)
def lN(s:Sch)(list:List Pth)(P:List (List Int)):Prop:=∀p∈P,∃a b:Nat,p=[(a:Int),(b:Int)]/\a<list.length/\b<list.length/\(list.getD a Pth.zero).st=(list.getD b Pth.zero).st/\s.aB (list.getD a Pth.zero)=s.aB (list.getD b Pth.zero)
theorem lN.pr{s:Sch}{list:List Pth}{P:List (List Int)}(h:lN s list P):vC list.length P:=fun p hp=>by
 obtain⟨a,b,h1,h2,h3,_⟩:=h p hp;exact⟨a,b,h1,h2,h3⟩
theorem lN.add{s:Sch}{list:List Pth}{P:List (List Int)}(h:lN s list P){a b:Nat}(ha:a<list.length)(hb:b<list.length)(h1:(list.getD a Pth.zero).st=(list.getD b Pth.zero).st)(h2:s.aB (list.getD a Pth.zero)=s.aB (list.getD b Pth.zero)) :
  lN s list (P++[[(a:Int),(b:Int)]]):=fun p hp=>by
 rcases List.mem_append.1 hp with hp | hp
 ·exact h p hp
 ·rw[List.mem_singleton] at hp;subst hp;exact⟨a,b,rfl,ha,hb,h1,h2⟩
theorem lN.cls{s:Sch}{list:List Pth}{P:List (List Int)}{cl:List Int}(h:lN s list P)(hj:lL (ch (bw list.length) P) cl):sv s list cl:=LC hj fun p hp=>by
 obtain⟨a,b,rfl,h1,h2,h3,h4⟩:=h p hp;exact⟨a,b,h1,h2,rfl,rfl,h3,h4⟩
theorem kF{s:Sch}{p:Pth}{y:Int}(h:s.aB p=some y){i:Nat}(hi:i<=p.ed.length):bn s.fr s.to p.st (p.ed.take i)=some (if i=0 then p.st else s.to.getD (p.ed.getD (i-1) 0).toNat 0):=by
 have h3:=(bx.1 h).2.2;rw[<-List.take_append_drop i p.ed,kL] at h3;cases hf:bn s.fr s.to p.st (p.ed.take i) with
 | none=>rw[hf] at h3;cases h3
 | some m =>
  have:=(pk hf).1;rw[this];by_cases hi0:i=0
  ·subst hi0;rfl
  ·have hne:¬p.ed.take i=[]:=fun e=>by
    have:=congrArg List.length e;rw[List.length_take,List.length_nil] at this;omega
   rw[if_neg hne,if_neg hi0];congr 3;rw[List.length_take,Nat.min_eq_left hi,List.getD_eq_getElem?_getD,List.getElem?_take,if_pos (by omega),List.getD_eq_getElem?_getD]
theorem sZ{s:Sch}{w p q:Pth}{y z m:Int}{i:Nat}(hw:s.aB w=some y)(hp:s.aB p=some z)(hq:s.aB q=some z)(aI:p.st=q.st)(hi:i+p.ed.length<=w.ed.length)
  (hm:bn s.fr s.to w.st (w.ed.take i)=some m) (hpm:m=p.st) (hs:(w.ed.take (i+p.ed.length)).drop i=p.ed) (hl:w.ed.length-p.ed.length+q.ed.length<=6) :
  s.aB ⟨w.st,w.ed.take i++q.ed++w.ed.drop (i+p.ed.length)⟩=some y:=by
 obtain⟨h1,h2,h3⟩:=bx.1 hw;refine bx.2 ⟨h1,?_,?_⟩
 ·show(w.ed.take i++q.ed++w.ed.drop _).length<=6
  simp only[List.length_append,List.length_take,List.length_drop];omega
 ·show bn s.fr s.to w.st (w.ed.take i++q.ed++w.ed.drop _)=_
  have e:w.ed=w.ed.take i++p.ed++w.ed.drop (i+p.ed.length):=by
   conv=>lhs;rw[<-List.take_append_drop (i+p.ed.length) w.ed,<-List.take_append_drop i (w.ed.take (i+p.ed.length)),hs,List.take_take,Nat.min_eq_left (by omega)]
  rw[e,List.append_assoc,kL,hm,Option.bind_some,kL,hpm,(bx.1 hp).2.2,Option.bind_some] at h3;rw[List.append_assoc,kL,hm,Option.bind_some,kL,hpm,aI,(bx.1 hq).2.2,Option.bind_some,h3]
end Go.D3
namespace Go.D3
open Go
set_option maxHeartbeats 4000000
set_option maxRecDepth 100000
theorem KF{l:List (List Int)}{a b:Int}:(U ints [] l).cZ [.slice (.int .i64 0) [.int .i64 a,.int .i64 b]]=aW (l++[[a,b]]):=by
 simp only[U,D.cZ,aW,List.map_append,List.map_cons,List.map_nil]
attribute [go_sem high] KF
def Ba:List Nat:=[0,2,3,4,5,6]
def II:Sl:=ae Go.Proofs.Tryz.types Go.Proofs.Tryz.f162 Ba []
theorem QB:aD Go.Proofs.Tryz.prog Go.Proofs.Tryz.f162 Ba II 1=true:=by decide +kernel
theorem TG(l:List Int)(hl:l.length<=1048576):al Go.Proofs.Tryz.prog 162 [.v (ints l)] (ints (dO l)):=by
 refine aC Go.Proofs.Tryz.func162 QB ?_;unfold II ae Ba;simp only[go_sem];refine aJ [5] (fun(i:Nat)=>[(2,.o (ints (dP (l.take i)).2)),(3,.o (ints (dP (l.take i)).1)),(4,.int .i64 i)]) (fun i=>i<=l.length) (fun i=>l.length-i) 0 (by simp only[go_sem];rfl) (Nat.zero_le _) rfl ?_;intro i hi;have hI:=nx (L:=l) i hi;have h1:=hI.len;have h2:=hI.sle hi;simp only[go_sem];refine⟨fun h=>⟨h,af (TH _ _ (by omega)) rfl (.inl rfl) ?_⟩,fun h=>?_⟩
 ·have hs:dP (l.take (i+1))=jj (dP (l.take i)) (l.getD i 0):=by rw[bT h 0,v8]
  have hw:=aH h (show l.length<=maxLen by simp only[maxLen];omega);generalize dP (l.take i)=st at hs h1 h2;simp only[go_sem];refine⟨fun hx=>?_,fun hx=>?_⟩
  ·refine⟨h,by omega,by omega,i+1,h,by omega,?_⟩
   rw[hs,jj,if_pos hx,hw]
  ·refine⟨by omega,i+1,h,by omega,?_⟩
   rw[hs,jj,if_neg hx,hw]
 ·rw[List.take_of_length_le (by omega)];rfl
theorem Pa{n:Nat}:bw (n+1)=bw n++[(n:Int)]:=by unfold bw;rw[List.range_succ,List.map_append];rfl
theorem Gp{l:List Int}{a b:Int}{i:Nat}(h:i<l.length):((da l a b).take i++l.drop i).getD i 0=l.getD i 0:=by
 rw[List.getD_eq_getElem?_getD,List.getElem?_append_right (by rw[List.length_take,gO];omega),List.length_take,gO,Nat.min_eq_left (by omega),Nat.sub_self,List.getElem?_drop,Nat.add_zero,List.getD_eq_getElem?_getD]
theorem Sz{l:List Int}{a b:Int}{i:Nat}(h:i<l.length):(da l a b).take (i+1)++l.drop (i+1)=((da l a b).take i++l.drop i).set i (if l.getD i 0=b then a else l.getD i 0):=by
 have hl:i<(da l a b).length:=by rw[gO];exact h
 rw[List.drop_eq_getElem_cons h,List.set_append_right _ _ (by rw[List.length_take];omega),List.length_take,Nat.min_eq_left (by omega),Nat.sub_self,List.set_cons_zero,bT hl 0,pY h,List.append_assoc];rfl
def Bd:List Nat:=[0,1,4,5,6,7,8,9,10]
def IL:Sl:=ae Go.Proofs.Tryz.types Go.Proofs.Tryz.f127 Bd []
theorem QE:aD Go.Proofs.Tryz.prog Go.Proofs.Tryz.f127 Bd IL 2=true:=by decide +kernel
theorem TI(n:Nat)(P:List (List Int))(hn:n<=1048576)(hl:P.length<=1048576)(hP:∀k,k<P.length->∃a b:Nat,P.getD k []=[(a:Int),(b:Int)]/\a<n/\b<n):al Go.Proofs.Tryz.prog 127 [.v (.int .i64 n),.v (aW P)] (ints (dO (ch (bw n) P))):=by
 refine aC Go.Proofs.Tryz.func127 QE ?_;unfold IL ae Bd;simp only[go_sem];refine aJ [] (fun(i:Nat)=>[(3,.o (ints (bw i))),(4,.int .i64 i)]) (fun i=>i<=n) (fun i=>n-i) 0 (by simp only[go_sem];rfl) (Nat.zero_le _) rfl ?_;intro i hi;simp only[go_sem];refine⟨fun h=>⟨by rw[dI];omega,i+1,by omega,by omega,by rw[aH (show i<n by omega) (by simp only[maxLen];omega),Pa]⟩,fun h=>?_⟩;obtain rfl:i=n:=by omega
 refine aJ [6,7,8] (fun(k:Nat)=>[(3,.o (ints (ch (bw i) (P.take k)))),(5,.int .i64 k)]) (fun k=>k<=P.length) (fun k=>P.length-k) 0 (by simp only[go_sem];rfl) (Nat.zero_le _) rfl ?_;intro k hk;have hL:(ch (bw i) (P.take k)).length=i:=by rw[ri,dI]
 simp only[go_sem];refine⟨fun h2=>?_,fun h2=>?_⟩
 ·obtain⟨u,v,hp,hu,hv⟩:=hP k h2
  have hs:ch (bw i) (P.take (k+1))=da (ch (bw i) (P.take k)) ((ch (bw i) (P.take k)).getD u 0) ((ch (bw i) (P.take k)).getD v 0):=by
   rw[bT h2 [],MQ,hp];rfl
  have hw:=aH h2 (show P.length<=maxLen by simp only[maxLen];omega);rw[hp];simp only[List.getD_cons_zero,List.getD_cons_succ,Int.toNat_natCast,List.length_cons,List.length_nil];generalize ch (bw i) (P.take k)=L at hs hL;generalize L.getD u 0=x at hs;generalize L.getD v 0=y at hs;refine⟨h2,by omega,by omega,h2,by omega,by omega,?_⟩;refine aJ [] (fun(j:Nat)=>[(3,.o (ints ((da L x y).take j++L.drop j))),(8,.int .i64 j)]) (fun j=>j<=L.length) (fun j=>L.length-j) 0 (by simp only[go_sem];rfl) (Nat.zero_le _) rfl ?_;intro j hj;have hl2:((da L x y).take j++L.drop j).length=L.length:=by rw[List.length_append,List.length_take,List.length_drop,gO];omega
  simp only[go_sem];simp only[hl2];refine⟨fun h3=>?_,fun h3=>?_⟩
  ·simp only[Bool.and_eq_true,decide_eq_true_eq,bne_iff_ne] at h3
   have aI:=Sz (a:=x) (b:=y) h3.1;have hw2:=aH h3.1 (show L.length<=maxLen by simp only[maxLen];omega);rw[Gp h3.1,hw2];refine⟨h3.1,fun h4=>⟨h3.1,h3.1,j+1,h3.1,by omega,?_⟩,fun h4=>⟨j+1,h3.1,by omega,?_⟩⟩
   ·rw[aI,if_pos h4]
   ·have h4:L.getD j 0≠y:=by simpa using h4
    rw[aI,if_neg h4]
    have e:((da L x y).take j++L.drop j).set j (L.getD j 0)=(da L x y).take j++L.drop j:=by
     rw[<-Gp (a:=x) (b:=y) h3.1,aO (by omega),List.set_getElem_self]
    rw[e]
  ·have:(da L x y).take j++L.drop j=da L x y:=by
    by_cases hxy:x=y
    ·have:da L x y=L:=by
      subst hxy;unfold da
      conv=>rhs;rw[<-List.map_id L]
      refine List.map_congr_left fun z _=>?_
      show(if z=x then x else z)=z;split<;>simp_all
     rw[this,List.take_append_drop]
    ·have:¬j<L.length:=fun h4=>by simp[h4,hxy] at h3
     rw[List.take_of_length_le (by rw[gO];omega),List.drop_of_length_le (by omega),List.append_nil]
   exact⟨k+1,h2,by omega,by rw[hs,this,hw]⟩
 ·rw[List.take_of_length_le (by omega)]
  refine af (TG _ (by rw[ri,dI];exact hn)) rfl (.inl (bJ _)) ?_;simp only[go_sem]
def Br:List Nat:=[0,1,4]
def I0:Sl:=ae Go.Proofs.Tryz.types Go.Proofs.Tryz.f100 Br []
theorem QR:aD Go.Proofs.Tryz.prog Go.Proofs.Tryz.f100 Br I0 2=true:=by decide +kernel
theorem TR(n:Nat)(P:List (List Int))(hn:n<=1048576)(hl:P.length<=1048576)(hP:∀k,k<P.length->∃a b:Nat,P.getD k []=[(a:Int),(b:Int)]/\a<n/\b<n):al Go.Proofs.Tryz.prog 100 [.v (.int .i64 n),.v (aW P)] (ints (dO (ch (bw n) P))):=by
 refine aC Go.Proofs.Tryz.func100 QR ?_;unfold I0 ae Br;simp only[go_sem];refine af (TI n P hn hl hP) rfl (.inl (bJ _)) ?_;simp only[go_sem]
end Go.D3
