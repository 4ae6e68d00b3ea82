/- PLAIN LAWS: the short paths of a schema and their classes. -/
import Derived.Test.YtpnchponfnbmiaaGreatDoorGAB
namespace Go.D3
open Go
set_option maxHeartbeats 4000000
set_option maxRecDepth 100000
end Go.D3
namespace Go.D3
open Go
set_option maxHeartbeats 4000000
set_option maxRecDepth 100000
theorem J0{s:Sch}{p:Pth}{y:Int}(h:s.aF p=some y):(0<=p.st/\p.st<s.nd)/\p.ed.length<=6/\bp s.fr s.to p.st p.ed=some y:=by
 unfold Sch.aF at h;split at h
 ·rename_i hc
  simp only[Bool.and_eq_true,bm,decide_eq_true_eq] at hc;exact⟨⟨hc.1.1,by omega⟩,hc.2,h⟩
 ·cases h
theorem ok_eq{s:Sch}(h:s.ok=true){i:Nat}(hi:i<s.lf.length):∃y,s.aF (s.lf.getD i Pth.zero)=some y/\s.aF (s.rt.getD i Pth.zero)=some y/\(s.lf.getD i Pth.zero).st=(s.rt.getD i Pth.zero).st:=by
 unfold Sch.ok at h;rw[Bool.and_eq_true] at h;have:=List.all_eq_true.1 h.2 i (List.mem_range.2 hi);unfold Sch.qo at this;cases hp:s.aF (s.lf.getD i Pth.zero) with
 | none=>rw[hp] at this;cases this
 | some a =>
  cases hq:s.aF (s.rt.getD i Pth.zero) with
  | none=>rw[hp,hq] at this;cases this
  | some b =>
   rw[hp,hq] at this;simp only[Bool.and_eq_true,beq_iff_eq] at this;exact⟨a,rfl,by rw[this.2],this.1⟩
theorem fg{s:Sch}(h:s.ok=true):s.fU=true/\s.lf.length<=8/\s.rt.length=s.lf.length:=by
 unfold Sch.ok Sch.gV at h;simp only[Bool.and_eq_true,decide_eq_true_eq] at h;exact⟨h.1.1,h.1.2.1,h.1.2.2⟩
def bf.all(s:Sch):bf->List bu->Option bf
 | d,[]=>some d
 | d,c::r=>if d.can s c=true then bf.all s (d.app s c) r else none
end Go.D3
namespace Go.D3
open Go
set_option maxHeartbeats 4000000
set_option maxRecDepth 100000
theorem Ce{fr to:List Int}:∀{l:List Int}{x:Int},cL fr.length l=false->bp fr to x l=none
 | [],x,h=>by cases h
 | e::l,x,h=>by
  rw[bp];split
  ·rename_i hc
   simp only[Bool.and_eq_true,bm,decide_eq_true_eq] at hc;refine Ce ?_;unfold cL at h|-
   rw[List.all_cons,Bool.and_eq_false_iff] at h;rcases h with h | h
   ·simp at h;omega
   ·exact h
  ·rfl
def As:List Nat:=[0,1,4,2,3,5,6]
def Hj:Sl:=ae Go.Proofs.Tryz.types Go.Proofs.Tryz.f81 As []
theorem OU:aD Go.Proofs.Tryz.prog Go.Proofs.Tryz.f81 As Hj 2=true:=by decide +kernel
theorem xM(s:Sch)(p:Pth)(hto:s.to.length=s.fr.length)(hn : 0<=s.nd):al Go.Proofs.Tryz.prog 81 [.v (Sch.d s),.v (Pth.d p)] (.bool (s.aF p).isSome):=by
 refine eI fun hw=>?_
 simp only[c7,eL,Sch.d,Pth.d,Sch.cells,Pth.cells,D.dx,gh,IntKind.has,IntKind.max,IntKind.signed,IntKind.bits] at hw;have hn2:s.nd<=9223372036854775807:=by simpa using hw.1.1.2
 have hl:p.ed.length<=maxLen:=hw.2.1.2.1.1;have hsub:IntKind.i64.wrap (s.nd-1)=s.nd-1:=lh ⟨by simp[IntKind.min,IntKind.signed,IntKind.bits];omega,by simp[IntKind.max,IntKind.signed,IntKind.bits];omega⟩;refine aA Go.Proofs.Tryz.func81 OU ?_;unfold Hj ae As;simp only[go_sem];rw[hsub];refine ak (xK _ _ _) rfl (.inl rfl) ?_;simp only[go_sem]
 have he:(bm p.st 0 (s.nd-1)&&decide (p.ed.length<=6))=!(!bm p.st 0 (s.nd-1) || decide ((6:Int)<(p.ed.length:Int))):=by
  rw[Bool.not_or,Bool.not_not,<-decide_not];congr 1;exact decide_eq_decide.2 (by omega)
 refine⟨fun h=>by simpa using h,bO (fun _=>pG _ _) rfl (fun h=>h) (.inl rfl) ?_⟩;simp only[go_sem];refine⟨(fun h=>by simp only[Bool.or_eq_false_iff,Bool.and_eq_true,Bool.not_eq_true',Bool.not_eq_false'] at h|-;exact h),fun h=>?_,fun h=>?_⟩
 ·unfold Sch.aF
  rw[he];rw[Bool.or_eq_true,Bool.not_eq_true'] at h;rcases h with h | h
  ·rw[h];rfl
  ·rw[Ce h];simp
 ·rw[Bool.or_eq_false_iff,Bool.not_eq_false'] at h
  have hE:s.aF p=bp s.fr s.to p.st p.ed:=by unfold Sch.aF;rw[he,h.1];rfl
  rw[hE];have hm:=fun i hi=>gw h.2 (i:=i) hi
  refine aI [] (fun(q:Nat×Int)=>[(5,.int .i64 q.2),(6,.int .i64 q.1)]) (fun q=>q.1<=p.ed.length/\bp s.fr s.to q.2 (p.ed.drop q.1)=bp s.fr s.to p.st p.ed) (fun q=>p.ed.length-q.1) (0,p.st) (by simp only[go_sem];rfl) ⟨Nat.zero_le _,rfl⟩ rfl ?_;rintro⟨i,y⟩ ⟨hi,ha⟩;simp only at hi ha;simp only[go_sem];refine⟨fun h2=>?_,fun h2=>?_⟩
  ·have hmi:=hm i h2
   rw[si h2] at ha;have hin:bm (p.ed.getD i 0) 0 ((s.fr.length:Int)-1)=true:=by unfold bm;simp only[Bool.and_eq_true,decide_eq_true_eq];omega
   rw[hin,Bool.true_and] at ha;refine⟨h2,hmi,fun h3=>?_,fun h3=>⟨h2,by omega,(i+1,s.to.getD (p.ed.getD i 0).toNat 0),⟨h2,?_⟩,by show p.ed.length-(i+1)<p.ed.length-i;omega,by rw[aH h2 hl]⟩⟩
   ·rw[bne_iff_ne] at h3
    rw[if_neg (by rw[beq_iff_eq];exact h3)] at ha;rw[<-ha];rfl
   ·rw[bne_eq_false_iff_eq] at h3
    rw[if_pos (by rw[beq_iff_eq];exact h3)] at ha;exact ha
  ·rw[show i=p.ed.length by omega,List.drop_length] at ha
   rw[<-ha];rfl
theorem oR{fr to:List Int}:∀{l:List Int}{x y:Int},bp fr to x l=some y->y=(if l=[] then x else to.getD (l.getD (l.length-1) 0).toNat 0)/\∀i,i<l.length->0<=l.getD i 0/\l.getD i 0<fr.length
 | [],x,y,h=>by rw[bp] at h;injection h with h;subst h;exact⟨rfl,fun i hi=>by simp at hi⟩
 | e::l,x,y,h=>by
  rw[bp] at h;split at h
  ·rename_i hc
   simp only[Bool.and_eq_true,bm,decide_eq_true_eq] at hc;obtain⟨h1,h2⟩:=oR h;refine⟨?_,fun i hi=>?_⟩
   ·rw[if_neg (by simp),h1]
    cases l with
    | nil=>rfl
    | cons f l=>rw[if_neg (by simp)];rfl
   ·cases i with
    | zero=>exact⟨hc.1.1,by show e<_;omega⟩
    | succ i=>exact h2 i (by simpa using hi)
  ·cases h
def Ap:List Nat:=[0,1,4,2,3]
def Hg:Sl:=ae Go.Proofs.Tryz.types Go.Proofs.Tryz.f82 Ap []
theorem OR:aD Go.Proofs.Tryz.prog Go.Proofs.Tryz.f82 Ap Hg 2=true:=by decide +kernel
theorem me(s:Sch)(p:Pth)(y:Int)(hto:s.to.length=s.fr.length)(h:s.aF p=some y):al Go.Proofs.Tryz.prog 82 [.v (Sch.d s),.v (Pth.d p)] (.int .i64 y):=by
 obtain⟨_,h6,hf⟩:=J0 h;obtain⟨hy,hr⟩:=oR hf;refine aA Go.Proofs.Tryz.func82 OR ?_;unfold Hg ae Ap;simp only[go_sem];refine⟨fun h2=>?_,fun h2=>?_⟩
 ·rw[hy,if_pos (List.length_eq_zero_iff.1 (by simpa using h2))]
 ·have h2:p.ed.length≠0:=by simpa using h2
  have hne:¬p.ed=[]:=fun e=>h2 (by rw[e];rfl)
  rw[if_neg hne] at hy;rw[H7 (by simp only[maxLen];omega)];have e1:((p.ed.length:Int)-1).toNat=p.ed.length-1:=by omega
  have:=hr (p.ed.length-1) (by omega);rw[e1];exact⟨by omega,by omega,by rw[hy]⟩
end Go.D3
namespace Go.D3
open Go
theorem kn{fr to:List Int}:∀{l m:List Int}{x:Int},bp fr to x (l++m)=(bp fr to x l).bind fun y=>bp fr to y m
 | [],m,x=>rfl
 | e::l,m,x=>by
  rw[List.cons_append,bp,bp];split
  ·exact kn
  ·rfl
theorem J9{fr to:List Int}{x:Int}{e:Nat}(he:e<fr.length)(hx:fr.getD e 0=x):bp fr to x [(e:Int)]=some (to.getD e 0):=by
 rw[bp,if_pos]
 ·rfl
 ·simp only[bm,Bool.and_eq_true,decide_eq_true_eq,beq_iff_eq,Int.toNat_natCast]
  exact⟨by omega,hx⟩
theorem bw{s:Sch}{p:Pth}{y:Int}:s.aF p=some y↔(0<=p.st/\p.st<=s.nd-1)/\p.ed.length<=6/\bp s.fr s.to p.st p.ed=some y:=by
 unfold Sch.aF;rw[<-and_assoc];constructor
 ·intro h
  split at h
  ·rename_i hc
   simp only[bm,Bool.and_eq_true,decide_eq_true_eq] at hc;exact⟨hc,h⟩
  ·cases h
 ·rintro⟨h1,h2⟩
  rw[if_pos (by simp only[bm,Bool.and_eq_true,decide_eq_true_eq];exact h1),h2]
theorem oK{s:Sch}{x:Int}(h0 : 0<=x)(h1:x<s.nd):s.aF ⟨x,[]⟩=some x:=bw.2 ⟨⟨h0,by show x<=_;omega⟩,Nat.zero_le _,rfl⟩
theorem mT{s:Sch}{p:Pth}{e:Nat}(h:s.aF p=some (s.fr.getD e 0))(he:e<s.fr.length)(hl:p.ed.length<6):s.aF ⟨p.st,p.ed++[(e:Int)]⟩=some (s.to.getD e 0):=by
 rw[bw] at h|-
 refine⟨h.1,by rw[List.length_append];exact hl,?_⟩;show bp s.fr s.to p.st (p.ed++_)=_;rw[kn,h.2.2];exact J9 he rfl
theorem JZ{s:Sch}{x:Int}{l:List Int}{e:Int}{y:Int}(h:s.aF ⟨x,l++[e]⟩=some y):∃k:Nat,e=k/\k<s.fr.length/\s.aF ⟨x,l⟩=some (s.fr.getD k 0):=by
 rw[bw] at h;obtain⟨h1,h2,h3⟩:=h;dsimp only at h1 h2 h3;rw[kn] at h3;cases hf:bp s.fr s.to x l with
 | none=>rw[hf] at h3;cases h3
 | some z =>
  rw[hf,Option.bind_some,bp] at h3;split at h3
  ·rename_i hc
   simp only[bm,Bool.and_eq_true,decide_eq_true_eq,beq_iff_eq] at hc;refine⟨e.toNat,by omega,by omega,bw.2 ⟨h1,?_,?_⟩⟩
   ·show l.length<=6
    rw[List.length_append,List.length_singleton] at h2;omega
   ·show bp s.fr s.to x l=_
    rw[hf,hc.2]
  ·cases h3
structure eM(s:Sch)(out:List Pth)(i:Nat):Prop where
 v:∀p∈out,∃y,s.aF p=some y
 z:∀x:Nat,(x:Int)<s.nd->(⟨x,[]⟩:Pth)∈out
 c:∀j,j<i->∀e:Nat,e<s.fr.length->(out.getD j Pth.zero).ed.length<6->s.aF (out.getD j Pth.zero)=some (s.fr.getD e 0)->(⟨(out.getD j Pth.zero).st,(out.getD j Pth.zero).ed++[(e:Int)]⟩:Pth)∈out
structure dp(s:Sch)(out:List Pth):Prop where
 v:∀p∈out,∃y,s.aF p=some y
 a:∀p y,s.aF p=some y->p∈out
theorem eM.done{s:Sch}{out:List Pth}{i:Nat}(h:eM s out i)(hi:out.length<=i):dp s out:=by
 refine⟨h.v,?_⟩
 have key:∀(n:Nat)(x:Int)(l:List Int),l.length=n->∀y,s.aF ⟨x,l⟩=some y->(⟨x,l⟩:Pth)∈out:=by
  intro n;induction n with
  | zero =>
   intro x l hl y hy;obtain rfl:=List.length_eq_zero_iff.1 hl;obtain⟨h1,_,_⟩:=bw.1 hy;dsimp only at h1;have:=h.z x.toNat (by omega)
   rwa [show((x.toNat:Nat):Int)=x by omega] at this
  | succ n ih =>
   intro x l hl y hy;have hne:l≠[]:=fun e=>by rw[e] at hl;cases hl
   rw[<-List.dropLast_concat_getLast hne] at hy|-
   obtain⟨k,hk,hk2,hp⟩:=JZ hy;have hm:=ih x l.dropLast (by rw[List.length_dropLast];omega) _ hp;obtain⟨j,hj,hg⟩:=List.getElem_of_mem hm;have hgd:out.getD j Pth.zero=⟨x,l.dropLast⟩:=by rw[aX hj,hg]
   have h6:=(bw.1 hy).2.1;rw[hk]
   have:=h.c j (by omega) k hk2 (by
    rw[hgd];simp only[List.length_append,List.length_dropLast,List.length_singleton] at h6|-
    omega) (by rw[hgd];exact hp)
   rwa [hgd] at this
 exact fun p y hy=>key _ p.st p.ed rfl y hy
def kP(l:List Pth)(x:Int)(ed:List Int):Int:=if l.findIdx (fun p=>p.st == x&&p.ed == ed)<l.length then((l.findIdx (fun p=>p.st == x&&p.ed == ed):Nat):Int) else -1
theorem qW{l:List Pth}{x:Int}{ed:List Int}(h:(⟨x,ed⟩:Pth)∈l):∃j:Nat,kP l x ed=j/\j<l.length/\l.getD j Pth.zero=⟨x,ed⟩:=by
 have hl:l.findIdx (fun p=>p.st == x&&p.ed == ed)<l.length:=List.findIdx_lt_length_of_exists ⟨_,h,by simp⟩;refine⟨_,by unfold kP;rw[if_pos hl],hl,?_⟩;have:=List.findIdx_getElem (w:=hl);rw[<-aX (d:=Pth.zero) hl] at this;generalize l.getD (l.findIdx (fun p=>p.st == x&&p.ed == ed)) Pth.zero=q at this;simp only[Bool.and_eq_true,beq_iff_eq] at this;cases q;dsimp only at this;rw[this.1,this.2]
structure rC(s:Sch)(list:List Pth)(cl:List Int):Prop where
 len:cl.length=list.length
 ge:∀i,i<list.length->0<=cl.getD i 0/\cl.getD i 0<list.length
 f:∀i (m:Nat),i<list.length->(∀q,q<i->cl.getD q 0<m)->cl.getD i 0<=m
 same:∀i j,i<list.length->j<list.length->cl.getD i 0=cl.getD j 0->(list.getD i Pth.zero).st=(list.getD j Pth.zero).st/\s.aF (list.getD i Pth.zero)=s.aF (list.getD j Pth.zero)
theorem JG{s:Sch}{list:List Pth}{P:List (List Int)}{cl:List Int}(h:lj (b7 (br list.length) P) cl)
  (hP:∀p∈P,∃a b:Nat,a<list.length/\b<list.length/\p.getD 0 0=a/\p.getD 1 0=b/\(list.getD a Pth.zero).st=(list.getD b Pth.zero).st/\s.aF (list.getD a Pth.zero)=s.aF (list.getD b Pth.zero)):rC s list cl:=by
 have hl:(b7 (br list.length) P).length=list.length:=by rw[qx,dF]
 refine⟨by rw[h.len,hl],fun i hi=>by have:=h.ge i (by omega);rwa [hl] at this,fun i m hi=>h.f i m (by omega),fun i j hi hj e=>?_⟩
 have:=h.same (fun i=>((list.getD i Pth.zero).st,s.aF (list.getD i Pth.zero))) (fun p hp=>by
  obtain⟨a,b,h1,h2,h3,h4,h5,h6⟩:=hP p hp
  exact⟨a,b,h1,h2,h3,h4,by rw[h5,h6]⟩) hi hj e
 exact⟨congrArg Prod.fst this,congrArg Prod.snd this⟩
structure ig(s:Sch)(list:List Pth)(cl:List Int)(i:Nat)(least:List Pth):Prop where
 lt:∀j,j<i->cl.getD j 0<least.length
 ex:∀k,k<least.length->∃j,j<i/\j<list.length/\cl.getD j 0=k/\least.getD k Pth.zero=list.getD j Pth.zero
 fZ:∀k,k<least.length->(least.getD k Pth.zero).ed.length<6
theorem ig.zero{s:Sch}{list:List Pth}{cl:List Int}:ig s list cl 0 []:=⟨fun _ hj=>absurd hj (Nat.not_lt_zero _),fun _ hk=>absurd hk (Nat.not_lt_zero _),fun _ hk=>absurd hk (Nat.not_lt_zero _)⟩
theorem ig.old{s:Sch}{list:List Pth}{cl:List Int}{i:Nat}{least:List Pth}(hc:rC s list cl)(h:ig s list cl i least)(hi:i<list.length)(hn:cl.getD i 0≠least.length):ig s list cl (i+1) least:=by
 refine⟨fun j hj=>?_,fun k hk=>?_,h.fZ⟩
 ·by_cases hji:j<i
  ·exact h.lt j hji
  ·rw[show j=i by omega]
   have:=hc.f i least.length hi h.lt;omega
 ·obtain⟨j,h1,h2⟩:=h.ex k hk
  exact⟨j,by omega,h2⟩
theorem ig.new{s:Sch}{list:List Pth}{cl:List Int}{i:Nat}{least:List Pth}(h:ig s list cl i least)(hi:i<list.length)(he:cl.getD i 0=least.length)(h6:(list.getD i Pth.zero).ed.length<6):ig s list cl (i+1) (least++[list.getD i Pth.zero]):=by
 have hlt:∀{k},k<least.length->(least++[list.getD i Pth.zero]).getD k Pth.zero=least.getD k Pth.zero:=fun hk=>by rw[fI (by omega),if_neg (by omega)]
 have hel:(least++[list.getD i Pth.zero]).getD least.length Pth.zero=list.getD i Pth.zero:=by rw[fI (Nat.le_refl _),if_pos rfl]
 refine⟨fun j hj=>?_,fun k hk=>?_,fun k hk=>?_⟩
 ·rw[List.length_append,List.length_singleton]
  by_cases hji:j<i
  ·have:=h.lt j hji;omega
  ·rw[show j=i by omega];omega
 ·rw[List.length_append,List.length_singleton] at hk
  by_cases hkl:k<least.length
  ·obtain⟨j,h1,h2,h3,h4⟩:=h.ex k hkl
   exact⟨j,by omega,h2,h3,by rw[hlt hkl,h4]⟩
  ·obtain rfl:k=least.length:=by omega
   exact⟨i,by omega,hi,he,hel⟩
 ·rw[List.length_append,List.length_singleton] at hk
  by_cases hkl:k<least.length
  ·rw[hlt hkl];exact h.fZ k hkl
  ·obtain rfl:k=least.length:=by omega
   rw[hel];exact h6
theorem ig.at'{s:Sch}{list:List Pth}{cl:List Int}{least:List Pth}(hA:dp s list)(hc:rC s list cl)(h:ig s list cl list.length least){x:Int}{ed:List Int}{y:Int}(hy:s.aF ⟨x,ed⟩=some y) :
  ∃j k:Nat,kP list x ed=j/\j<cl.length/\cl.getD j 0=k/\k<least.length/\(least.getD k Pth.zero).st=x/\s.aF (least.getD k Pth.zero)=some y/\(least.getD k Pth.zero).ed.length<6:=by
 obtain⟨j,h1,h2,h3⟩:=qW (hA.a _ _ hy);have h4:=(hc.ge j h2).1;have h5:=h.lt j h2;obtain⟨k,hk⟩:∃k:Nat,cl.getD j 0=k:=⟨(cl.getD j 0).toNat,by omega⟩;obtain⟨j',_,h6,h7,h8⟩:=h.ex k (by omega);obtain⟨h9,h10⟩:=hc.same j' j h6 h2 (by rw[h7,hk]);refine⟨j,k,h1,by rw[hc.len];exact h2,hk,by omega,?_,?_,h.fZ k (by omega)⟩
 ·rw[h8,h9,h3]
 ·rw[h8,h10,h3,hy]
end Go.D3
