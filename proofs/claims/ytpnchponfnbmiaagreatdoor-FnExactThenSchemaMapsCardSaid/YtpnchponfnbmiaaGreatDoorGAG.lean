/- PLAIN LAWS: the classes of short paths and their least paths, in order. -/
import Derived.Test.YtpnchponfnbmiaaGreatDoorGAF
namespace Go.D3
open Go
set_option maxHeartbeats 4000000
set_option maxRecDepth 100000
def Bx:List Nat:=[0,1,2,6,7]
def I6:Sl:=ae Go.Proofs.Tryz.types Go.Proofs.Tryz.f102 Bx []
theorem QX:aD Go.Proofs.Tryz.prog Go.Proofs.Tryz.f102 Bx I6 3=true:=by decide +kernel
theorem rT(l:List Pth)(x:Int)(ed:List Int)(hl:l.length<=1048576)(he:∀i,i<l.length->(l.getD i Pth.zero).ed.length<=1048576) :
  al Go.Proofs.Tryz.prog 102 [.v (U Pth.d Pth.zero l),.v (.int .i64 x),.v (ints ed)] (.int .i64 (lq l x ed)):=by
 refine aC Go.Proofs.Tryz.func102 QX ?_;unfold I6 ae Bx;simp only[go_sem];refine aJ [] (fun i:Nat=>[(4,.int .i64 i)]) (fun i=>i<=l.findIdx fun p=>p.st == x&&p.ed == ed) (fun i=>l.length-i) 0 (by simp only[go_sem];rfl) (Nat.zero_le _) rfl ?_;intro i hi;have hfl:=List.findIdx_le_length (p:=fun p:Pth=>p.st == x&&p.ed == ed) (xs:=l);have hp:lq l x ed=if l.findIdx (fun p=>p.st == x&&p.ed == ed)<l.length then((l.findIdx (fun p=>p.st == x&&p.ed == ed):Nat):Int) else -1:=rfl
 simp only[go_sem];refine⟨fun h1=>⟨h1,fun h2=>⟨h2,h1⟩,bt (fun _=>qf _ _ (he i h1)) rfl (fun h=>h) (.inl rfl) ?_⟩,fun h1=>?_⟩
 ·simp only[go_sem]
  refine⟨fun h2=>?_,fun h2=>⟨i+1,?_,by omega,by rw[aH h1 (by simp only[maxLen];omega)]⟩⟩
  ·have:l.findIdx (fun p=>p.st == x&&p.ed == ed)<=i:=by
    apply Nat.le_of_not_lt;intro hh;have:=List.not_of_lt_findIdx hh;rw[<-aO (d:=Pth.zero) h1,h2] at this;cases this
   have e:l.findIdx (fun p=>p.st == x&&p.ed == ed)=i:=by omega
   rw[hp,e,if_pos h1]
  ·by_cases hlt:i<l.findIdx fun p=>p.st == x&&p.ed == ed
   ·omega
   ·have e:l.findIdx (fun p=>p.st == x&&p.ed == ed)=i:=by omega
    have:=List.findIdx_getElem (w:=show l.findIdx (fun p=>p.st == x&&p.ed == ed)<l.length by omega);simp only[e] at this;rw[<-aO (d:=Pth.zero) h1,h2] at this;cases this
 ·rw[hp,if_neg (by omega)]
def eM(p:Pth)(y:Int):List Int:=[p.st,y,p.ed.length]++p.ed
def Bt:List Nat:=[0,1,2,6,3,4,5,7,8]
def I2:Sl:=ae Go.Proofs.Tryz.types Go.Proofs.Tryz.f126 Bt []
theorem QT:aD Go.Proofs.Tryz.prog Go.Proofs.Tryz.f126 Bt I2 3=true:=by decide +kernel
theorem TS(s:Sch)(p q:Pth)(y z:Int)(hto:s.to.length=s.fr.length)(hp:s.aB p=some y)(hq:s.aB q=some z):al Go.Proofs.Tryz.prog 126 [.v (Sch.d s),.v (Pth.d p),.v (Pth.d q)] (.bool (lexB (eM p y) (eM q z))):=by
 refine aC Go.Proofs.Tryz.func126 QT ?_;unfold I2 ae Bt;simp only[go_sem];have h6:=(bx.1 hp).2.1;have h7:=(bx.1 hq).2.1;refine af (mM s p y hto hp) rfl (.inl rfl) ?_;simp only[go_sem];refine⟨oA _,by rw[List.length_map];omega,af (mM s q z hto hq) rfl (.inl rfl) ?_⟩;simp only[go_sem];refine⟨oA _,by rw[List.length_map];omega,af (TJ (eM p y) (eM q z) (by simp only[eM,List.length_append,List.length_cons,List.length_nil];omega)) rfl (.inl rfl) ?_⟩;simp only[go_sem]
def dJ:Option Pth->D
 | some p=>.agg [.int .i64 p.st,.vw (ints p.ed)]
 | none=>.agg [.int .i64 0,ints []]
structure au where
 c:ak
 ls:List Pth
 ed:List Int
def au.cells(x:au):List D:=[.int .i64 x.c.ob,ints x.c.fr,ints x.c.to,ints x.c.aN,aW x.c.co,U dJ none (x.ls.map some),ints x.ed]
def au.d(x:au):D:=.agg x.cells
attribute [go_sem] au.d.eq_1 au.cells.eq_1
def au.arr(x:au)(p:Pth)(i:Nat):Int:=(p.ed.take i).foldl (fun h e=>x.c.bI h (x.ed.getD e.toNat 0)) (x.c.gi p.st)
def vg:List Nat:=[0,1,4,2,3,5,6]
def y7:Sl:=ae Go.Proofs.Tryz.types Go.Proofs.Tryz.f47 vg []
theorem Fc:aD Go.Proofs.Tryz.prog Go.Proofs.Tryz.f47 vg y7 2=true:=by decide +kernel
theorem TQ(x:au)(p:Pth)(hs : 0<=p.st/\p.st<x.c.aN.length)(he:∀i,i<p.ed.length->0<=p.ed.getD i 0/\p.ed.getD i 0<x.ed.length)
  (h:∀i,i<p.ed.length->(0<=x.arr p i/\x.arr p i<x.c.co.length)/\0<=x.ed.getD (p.ed.getD i 0).toNat 0/\x.ed.getD (p.ed.getD i 0).toNat 0<(x.c.co.getD (x.arr p i).toNat []).length) (hl:p.ed.length<=1048576) :
  al Go.Proofs.Tryz.prog 47 [.v (au.d x),.v (Pth.d p)] (.int .i64 (x.arr p p.ed.length)):=by
 refine aC Go.Proofs.Tryz.func47 Fc ?_;unfold y7 ae vg;simp only[go_sem];refine⟨hs,?_⟩;refine aJ [] (fun(i:Nat)=>[(5,.int .i64 (x.arr p i)),(6,.int .i64 i)]) (fun i=>i<=p.ed.length) (fun i=>p.ed.length-i) 0 (by simp only[go_sem];rfl) (Nat.zero_le _) rfl ?_;intro i hi;simp only[go_sem];refine⟨fun h1=>?_,fun h1=>by rw[show i=p.ed.length by omega]⟩;obtain⟨h2,h3⟩:=h i h1;refine⟨h2,h1,he i h1,h3,i+1,h1,by omega,?_⟩
 have e:x.arr p (i+1)=(x.c.co.getD (x.arr p i).toNat []).getD (x.ed.getD (p.ed.getD i 0).toNat 0).toNat 0:=by
  unfold au.arr;rw[bT h1 0,List.foldl_append];rfl
 rw[e,aH h1 (by simp only[maxLen];omega)]
end Go.D3
namespace Go.D3
open Go
theorem Es:∀a:List Int,lexB a a=false
 | []=>rfl
 | x::l=>by simp only[lexB,if_true];exact Es l
theorem rl:∀{a b:List Int},lexB a b=true->lexB b a=false
 | [],[],_=>rfl
 | [],_::_,_=>rfl
 | _::_,[],h=>by cases h
 | a::l,b::r,h=>by
  unfold lexB at h|-
  by_cases e:a=b
  ·rw[if_pos e] at h;rw[if_pos e.symm];exact rl h
  ·rw[if_neg e] at h;rw[if_neg (Ne.symm e)];simp at h|-;omega
theorem tD:∀{a b c:List Int},lexB b a=false->lexB c b=false->lexB c a=false
 | [],_,[],_,_=>rfl
 | [],_,_::_,_,_=>rfl
 | _::_,[],_,h,_=>by cases h
 | _::_,_::_,[],_,h=>by cases h
 | a::l,b::r,c::s,h1,h2=>by
  unfold lexB at h1 h2|-
  by_cases e1:b=a
  ·subst e1
   rw[if_pos rfl] at h1;by_cases e2:c=b
   ·subst e2;rw[if_pos rfl] at h2|-;exact tD h1 h2
   ·rw[if_neg e2] at h2|-;exact h2
  ·rw[if_neg e1] at h1
   by_cases e2:c=b
   ·subst e2;rw[if_neg e1];exact h1
   ·rw[if_neg e2] at h2
    simp at h1 h2;rw[if_neg (by omega)];simp;omega
theorem Er:∀{a b:List Int},lexB a b=false->lexB b a=false->a=b
 | [],[],_,_=>rfl
 | [],_::_,h,_=>by cases h
 | _::_,[],_,h=>by cases h
 | a::l,b::r,h1,h2=>by
  unfold lexB at h1 h2;by_cases e:a=b
  ·subst e;rw[if_pos rfl] at h1 h2;rw[Er h1 h2]
  ·rw[if_neg e] at h1;rw[if_neg (Ne.symm e)] at h2;simp at h1 h2;omega
def Sch.sp(s:Sch)(p:Pth):Prop:=∃y,s.aB p=some y
def Sch.en(s:Sch)(p:Pth):Int:=(s.aB p).getD 0
def Sch.fu(s:Sch)(p:Pth)(i a:Nat)(q:Pth):Prop :=
 i<s.lf.length/\a+(s.lf.getD i Pth.zero).ed.length<=p.ed.length/\bn s.fr s.to p.st (p.ed.take a)=some (s.lf.getD i Pth.zero).st /\
 (p.ed.take (a+(s.lf.getD i Pth.zero).ed.length)).drop a=(s.lf.getD i Pth.zero).ed/\p.ed.length-(s.lf.getD i Pth.zero).ed.length+(s.rt.getD i Pth.zero).ed.length<=6 /\
 q=⟨p.st,p.ed.take a++(s.rt.getD i Pth.zero).ed++p.ed.drop (a+(s.lf.getD i Pth.zero).ed.length)⟩
theorem Eu{s:Sch}(h:s.ok=true){p q:Pth}{y:Int}{i a:Nat}(hp:s.aB p=some y)(hl:s.fu p i a q):q.st=p.st/\s.aB q=some y:=by
 obtain⟨hi,h1,h2,h3,h4,rfl⟩:=hl;obtain⟨z,e1,e2,e3⟩:=ok_eq h hi;exact⟨rfl,sZ hp e1 e2 e3 h1 h2 rfl h3 h4⟩
inductive Sch.eqv(s:Sch):Pth->Pth->Prop
 | refl {p:Pth}:s.sp p->s.eqv p p
 | lk {p q:Pth} {i a:Nat}:s.sp p->s.fu p i a q->s.eqv p q
 | symm {p q:Pth}:s.eqv p q->s.eqv q p
 | trans {p q r:Pth}:s.eqv p q->s.eqv q r->s.eqv p r
theorem lX{s:Sch}(h:s.ok=true){p q:Pth}(e:s.eqv p q):p.st=q.st/\s.aB p=s.aB q/\s.sp p/\s.sp q:=by
 induction e with
 | refl hp=>exact⟨rfl,rfl,hp,hp⟩
 | lk hp hl =>
  obtain⟨y,hy⟩:=hp;have:=Eu h hy hl;exact⟨this.1.symm,by rw[hy,this.2],⟨y,hy⟩,⟨y,this.2⟩⟩
 | symm _ ih=>exact⟨ih.1.symm,ih.2.1.symm,ih.2.2.2,ih.2.2.1⟩
 | trans _ _ i1 i2=>exact⟨i1.1.trans i2.1,i1.2.1.trans i2.2.1,i1.2.2.1,i2.2.2.2⟩
def Sch.lt(s:Sch)(p q:Pth):Prop:=lexB (eM p (s.en p)) (eM q (s.en q))=true
theorem lt_asymm{s:Sch}{p q:Pth}(h:s.lt p q):¬s.lt q p:=fun h2=>by
 have:=rl h;unfold Sch.lt at h2;rw[this] at h2;cases h2
theorem pC{s:Sch}{p:Pth}:¬s.lt p p:=fun h=>lt_asymm h h
theorem lt_eq{s:Sch}{p q:Pth}(h1:¬s.lt p q)(h2:¬s.lt q p):p=q:=by
 unfold Sch.lt at h1 h2;rw[Bool.not_eq_true] at h1 h2;have:=Er h1 h2;unfold eM at this;simp only[List.cons_append,List.nil_append,List.cons.injEq] at this;cases p;cases q;simp only at this;rw[this.1,this.2.2.2]
theorem lt_trans{s:Sch}{p q r:Pth}(h1:s.lt p q)(h2:s.lt q r):s.lt p r:=by
 have a:=rl h1;have b:=rl h2;have c:=tD a b;by_cases h:s.lt p r
 ·exact h
 ·obtain rfl:=lt_eq h (by unfold Sch.lt;rw[c];exact Bool.noConfusion)
  exact absurd h1 (lt_asymm h2)
structure Sch.cB(s:Sch)(ls:List Pth):Prop where
 sp:∀p∈ls,s.sp p
 oH:ls.Pairwise s.lt
 min:∀p∈ls,∀q,s.eqv p q->¬s.lt q p
 ex:∀p,s.sp p->∃q∈ls,s.eqv p q
theorem Sch.cB.sub{s:Sch}{l m:List Pth}(h:s.cB l)(g:s.cB m):∀p∈l,p∈m:=fun p hp=>by
 obtain⟨q,hq,he⟩:=g.ex p (h.sp p hp)
 rwa [lt_eq (g.min q hq p he.symm) (h.min p hp q he)]
theorem Sch.cB.nodup{s:Sch}{l:List Pth}(h:s.cB l):l.Nodup:=h.oH.imp fun {a b} hl=>show a≠b from fun e=>pC (e▸hl)
theorem Sch.cB.uniq{s:Sch}{l m:List Pth}(h:s.cB l)(g:s.cB m):l=m :=
 ((List.perm_ext_iff_of_nodup h.nodup g.nodup).2 fun p=>⟨h.sub g p,g.sub h p⟩).eq_of_pairwise (fun _ _ _ _ h1 h2=>absurd h1 (lt_asymm h2)) h.oH g.oH
open Classical in
noncomputable def Sch.no(s:Sch)(ls:List Pth)(p:Pth):Int:=if h:∃k:Nat,k<ls.length/\s.eqv p (ls.getD k Pth.zero) then((Classical.choose h:Nat):Int) else 0
theorem cH{α:Type}{l:List α}{i:Nat}{d:α}(h:i<l.length):l.getD i d∈l:=by rw[aO h];exact List.getElem_mem _
theorem ew{α:Type}{l:List α}{x d:α}(h:x∈l):∃i,i<l.length/\l.getD i d=x:=by
 obtain⟨i,hi,e⟩:=List.getElem_of_mem h;exact⟨i,hi,by rw[aO hi,e]⟩
theorem Sch.cB.inj{s:Sch}{ls:List Pth}(h:s.cB ls){j k:Nat}(hj:j<ls.length)(hk:k<ls.length)(e:s.eqv (ls.getD j Pth.zero) (ls.getD k Pth.zero)):j=k:=by
 have a:=h.min _ (cH hj) _ e;have b:=h.min _ (cH hk) _ e.symm;have c:=lt_eq b a;rw[aO hj,aO hk] at c;exact(List.getElem_inj h.nodup).1 c
theorem Sch.cB.tP{s:Sch}{ls:List Pth}(h:s.cB ls){p:Pth}{k:Nat}(hk:k<ls.length)(e:s.eqv p (ls.getD k Pth.zero)):s.no ls p=k:=by
 have hx:∃k:Nat,k<ls.length/\s.eqv p (ls.getD k Pth.zero):=⟨k,hk,e⟩;unfold Sch.no;rw[dif_pos hx];have:=Classical.choose_spec hx;rw[h.inj this.1 hk (this.2.symm.trans e)]
theorem Sch.cB.EV{s:Sch}{ls:List Pth}(h:s.cB ls){p:Pth}(hp:s.sp p):∃k:Nat,s.no ls p=k/\k<ls.length/\s.eqv p (ls.getD k Pth.zero):=by
 obtain⟨q,hq,he⟩:=h.ex p hp;obtain⟨k,hk,rfl⟩:=ew (d:=Pth.zero) hq;exact⟨k,h.tP hk he,hk,he⟩
noncomputable def Sch.jJ(s:Sch)(ls:List Pth)(h e:Int):Int:=s.no ls ⟨(ls.getD h.toNat Pth.zero).st,(ls.getD h.toNat Pth.zero).ed++[e]⟩
noncomputable def Sch.cmp(s:Sch)(ls:List Pth)(f g:Nat):Int :=
 if s.en (ls.getD f Pth.zero)=(ls.getD g Pth.zero).st then(ls.getD g Pth.zero).ed.foldl (s.jJ ls) f else -1
noncomputable def Sch.cE(s:Sch)(ls:List Pth):au :=
 { c:={ ob:=s.nd,fr:=ls.map Pth.st,to:=ls.map s.en,aN:=(List.range s.nd.toNat).map fun x:Nat=>s.no ls ⟨x,[]⟩,co:=(List.range ls.length).map fun f=>(List.range ls.length).map fun g=>s.cmp ls f g },ls,ed:=(List.range s.fr.length).map fun k:Nat=>s.no ls ⟨s.fr.getD k 0,[(k:Int)]⟩ }
def Sch.fits(s:Sch):Prop:=∃l:List Pth,l.Nodup/\di s l/\l.length<=400
def Sch.fM(s:Sch)(x:au):Bool:=x.c.jv&&(cm x.ls.length fun f=>x.arr (x.ls.getD f Pth.zero) (x.ls.getD f Pth.zero).ed.length == (f:Int)) &&
 cm s.lf.length fun i=>x.arr (s.lf.getD i Pth.zero) (s.lf.getD i Pth.zero).ed.length == x.arr (s.rt.getD i Pth.zero) (s.rt.getD i Pth.zero).ed.length
def Sch.all(s:Sch)(ls:List Pth):Prop:=(∀p∈ls,p.ed.length<6)/\ls.length<=40/\s.fM (s.cE ls)=true
inductive Sch.fK(s:Sch):Option au->Prop
 | many:¬s.fits->s.fK none
 | iV (ls:List Pth):s.cB ls->¬s.all ls->s.fK none
 | yes (ls:List Pth):s.fits->s.cB ls->s.all ls->s.fK (some (s.cE ls))
theorem fK.uniq{s:Sch}{a b:Option au}(ha:s.fK a)(hb:s.fK b):a=b:=by
 cases ha with
 | many h=>cases hb with
  | many=>rfl
  | iV=>rfl
  | yes _ g=>exact absurd g h
 | iV l hl h=>cases hb with
  | many=>rfl
  | iV=>rfl
  | yes m _ g1 g2=>rw[hl.uniq g1] at h;exact absurd g2 h
 | yes l h1 h2 h3=>cases hb with
  | many g=>exact absurd h1 g
  | iV m g1 g2=>rw[h2.uniq g1] at h3;exact absurd h3 g2
  | yes m g1 g2 g3=>rw[h2.uniq g2]
noncomputable def Sch.aU(s:Sch):Option au:=Classical.epsilon s.fK
theorem mD{s:Sch}{o:Option au}(h:s.fK o):s.aU=o:=fK.uniq (Classical.epsilon_spec ⟨o,h⟩) h
end Go.D3
namespace Go.D3
open Go
theorem xz{α:Type}:∀{A B:List α},A.Nodup->(∀x∈A,x∈B)->A.length<=B.length
 | [],_,_,_=>Nat.zero_le _
 | x::A,B,h,hs=>by
  classical
  rw[List.nodup_cons] at h;have hx:=hs x List.mem_cons_self;have:=xz (A:=A) (B:=B.erase x) h.2 fun y hy=>(List.mem_erase_of_ne (show y≠x from fun e=>h.1 (by rw[<-e];exact hy))).2 (hs y (List.mem_cons_of_mem _ hy))
  rw[List.length_erase_of_mem hx] at this;have:=List.length_pos_of_mem hx;rw[List.length_cons];omega
theorem O6{α:Type}{l:List α}{x:α}(h:l.Nodup)(hx:x ∉ l):(l++[x]).Nodup:=by
 rw[List.nodup_append];refine⟨h,by simp,fun a ha b hb=>?_⟩;rw[List.mem_singleton] at hb;rintro rfl;exact hx (hb▸ha)
theorem getD_inj{α:Type}{l:List α}{d:α}(h:l.Nodup){i j:Nat}(hi:i<l.length)(hj:j<l.length)(e:l.getD i d=l.getD j d):i=j:=by
 rw[aO hi,aO hj] at e;exact(List.getElem_inj h).1 e
structure iF(o:List Pth)(i k:Nat):Prop where
 nd:o.Nodup
 f:∀p∈o,p.ed=[]\/∃j e:Nat,j<o.length/\(j<i\/j=i/\e<k)/\p=⟨(o.getD j Pth.zero).st,(o.getD j Pth.zero).ed++[(e:Int)]⟩
theorem iF.zero{n:Nat}:iF (im n) 0 0:=by
 refine⟨?_,fun p hp=>.inl ?_⟩
 ·unfold im
  rw[List.nodup_iff_pairwise_ne,List.pairwise_map];refine List.pairwise_lt_range.imp fun {a b} h e=>?_
  injection e with e
  omega
 ·obtain⟨x,_,rfl⟩:=List.mem_map.1 hp;rfl
theorem iF.mono{o:List Pth}{i k i' k':Nat}(h:iF o i k)(hi:i<i'\/i=i'/\k<=k'):iF o i' k':=by
 refine⟨h.nd,fun p hp=>?_⟩;rcases h.f p hp with h1 | ⟨j,e,h1,h2,h3⟩
 ·exact .inl h1
 ·exact .inr ⟨j,e,h1,by omega,h3⟩
theorem iF.add{o:List Pth}{i k:Nat}(h:iF o i k)(hi:i<o.length):iF (o++[⟨(o.getD i Pth.zero).st,(o.getD i Pth.zero).ed++[(k:Int)]⟩]) i (k+1):=by
 have hg:∀{j},j<o.length->(o++[(⟨(o.getD i Pth.zero).st,(o.getD i Pth.zero).ed++[(k:Int)]⟩:Pth)]).getD j Pth.zero=o.getD j Pth.zero:=fun hj=>by rw[fV (by omega),if_neg (by omega)]
 refine⟨O6 h.nd fun hm=>?_,fun p hp=>?_⟩
 ·rcases h.f _ hm with h1 | ⟨j,e,h1,h2,h3⟩
  ·simp at h1
  ·injection h3 with h3 h4
   have h5:=List.append_inj_left' h4 rfl;have h6:=List.append_inj_right' h4 rfl
   have:o.getD i Pth.zero=o.getD j Pth.zero:=by
    cases hx:o.getD i Pth.zero;cases hy:o.getD j Pth.zero;rw[hx,hy] at h3 h5;simp only at h3 h5;rw[h3,h5]
   have:=getD_inj h.nd hi h1 this;simp at h6;omega
 ·rcases List.mem_append.1 hp with hp | hp
  ·rcases h.f p hp with h1 | ⟨j,e,h1,h2,h3⟩
   ·exact .inl h1
   ·exact .inr ⟨j,e,by rw[List.length_append];omega,by omega,by rw[hg h1];exact h3⟩
  ·rw[List.mem_singleton] at hp
   exact .inr ⟨i,k,by rw[List.length_append];omega,.inr ⟨rfl,by omega⟩,by rw[hg hi];exact hp⟩
theorem E0{s:Sch}{o:List Pth}(hn:o.Nodup)(hv:∀p∈o,∃y,s.aB p=some y)(hl : 400<o.length):¬s.fits:=fun⟨m,_,hA,hm⟩=>by
 have:=xz hn fun p hp=>by obtain⟨y,hy⟩:=hv p hp;exact hA.a p y hy
 omega
theorem Sch.cB.of{s:Sch}(h:s.ok=true){list:List Pth}(hA:di s list)(hs:list.Pairwise s.lt):∃ls,s.cB ls:=by
 classical
 refine⟨list.filter fun p=>decide (∀q,s.eqv p q->¬s.lt q p),fun p hp=>?_,hs.filter _,fun p hp=>?_,fun p hp=>?_⟩
 ·exact hA.v p (List.mem_filter.1 hp).1
 ·simpa using(List.mem_filter.1 hp).2
 ·
  obtain⟨y,hy⟩:=hp;have hm:=hA.a p y hy;have hx:list.findIdx (fun q=>decide (s.eqv p q))<list.length:=List.findIdx_lt_length_of_exists ⟨p,hm,by simpa using Sch.eqv.refl ⟨y,hy⟩⟩;have he:=List.findIdx_getElem (w:=hx);have he:s.eqv p list[list.findIdx fun q=>decide (s.eqv p q)]:=by simpa using he
  refine⟨_,List.mem_filter.2 ⟨List.getElem_mem hx,?_⟩,he⟩;simp only[decide_eq_true_eq];intro q hq hlt;obtain⟨z,hz⟩:=(lX h hq).2.2.2;obtain⟨j,hj,rfl⟩:=List.getElem_of_mem (hA.a q z hz)
  have hne:¬j<list.findIdx fun q=>decide (s.eqv p q):=fun hh=>by
   have:=List.not_of_lt_findIdx hh;rw[decide_eq_false_iff_not] at this;exact this (he.trans hq)
  by_cases hjj:j=list.findIdx fun q=>decide (s.eqv p q)
  ·subst hjj;exact pC hlt
  ·exact lt_asymm hlt ((List.pairwise_iff_getElem.1 hs) _ _ hx hj (by omega))
theorem JF{s:Sch}{o:List Pth}(hn:o.Nodup)(h:o.Pairwise fun p q=>¬s.lt q p):o.Pairwise s.lt:=by
 refine(List.Pairwise.and hn h).imp fun {a b} hh=>?_
 by_cases hl:s.lt a b
 ·exact hl
 ·exact absurd (lt_eq hl hh.2) hh.1
theorem Sch.cB.Jw{s:Sch}(h:s.ok=true){o:List Pth}(hn:o.Nodup)(hA:di s o):∃ls,s.cB ls:=by
 have hp:=List.mergeSort_perm o fun p q=>!lexB (eM q (s.en q)) (eM p (s.en p))
 refine Sch.cB.of h (hA.perm hp) (JF (hp.nodup_iff.2 hn) ?_);refine(List.pairwise_mergeSort (le:=fun p q=>!lexB (eM q (s.en q)) (eM p (s.en p))) (fun a b c h1 h2=>?_) (fun a b=>?_) o).imp fun {a b} hh hl=>?_
 ·simp only[Bool.not_eq_true'] at h1 h2|-;exact tD h1 h2
 ·cases hh:lexB (eM b (s.en b)) (eM a (s.en a))
  ·simp
  ·simp[rl hh]
 ·unfold Sch.lt at hl;rw[hl] at hh;cases hh
structure dM(s:Sch)(list:List Pth)(P:List (List Int))(w i a:Nat):Prop where
 v:∀p∈P,∃x y i' a':Nat,p=[(x:Int),(y:Int)]/\x<list.length/\y<list.length/\s.fu (list.getD x Pth.zero) i' a' (list.getD y Pth.zero)
 c:∀(x i' a':Nat)(q:Pth),x<list.length->(x<w\/x=w/\(i'<i\/i'=i/\a'<a))->s.fu (list.getD x Pth.zero) i' a' q->∃y:Nat,y<list.length/\list.getD y Pth.zero=q/\[(x:Int),(y:Int)]∈P
theorem dM.zero{s:Sch}{list:List Pth}:dM s list [] 0 0 0:=⟨fun p hp=>(by cases hp),fun x i' a' q _ h=>by omega⟩
theorem dM.ok{s:Sch}(h:s.ok=true){list:List Pth}(hA:di s list){P:List (List Int)}{w i a:Nat}(hx:dM s list P w i a):lN s list P:=fun p hp=>by
 obtain⟨x,y,i',a',h1,h2,h3,h4⟩:=hx.v p hp;obtain⟨z,hz⟩:=hA.at' h2;have:=Eu h hz h4;exact⟨x,y,h1,h2,h3,this.1.symm,by rw[hz,this.2]⟩
theorem dM.skip{s:Sch}{list:List Pth}{P:List (List Int)}{w i a:Nat}(h:dM s list P w i a)(hn:∀q,¬s.fu (list.getD w Pth.zero) i a q):dM s list P w i (a+1) :=
 ⟨h.v,fun x i' a' q hx hc hl=>by
  by_cases he:x=w/\i'=i/\a'=a
  ·obtain⟨rfl,rfl,rfl⟩:=he;exact absurd hl (hn q)
  ·exact h.c x i' a' q hx (by omega) hl⟩
theorem dM.xu{s:Sch}{list:List Pth}{P:List (List Int)}{w i a:Nat}(h:dM s list P w i a)(hn:(list.getD w Pth.zero).ed.length<a+(s.lf.getD i Pth.zero).ed.length):dM s list P w (i+1) 0 :=
 ⟨h.v,fun x i' a' q hx hc hl=>by
  by_cases he:x=w/\i'=i/\a<=a'
  ·obtain⟨rfl,rfl,ha⟩:=he
   have:=hl.2.1;omega
  ·exact h.c x i' a' q hx (by omega) hl⟩
theorem dM.xw{s:Sch}{list:List Pth}{P:List (List Int)}{w i a:Nat}(h:dM s list P w i a)(hn:s.lf.length<=i):dM s list P (w+1) 0 0 :=
 ⟨h.v,fun x i' a' q hx hc hl=>by
  by_cases he:x=w/\i<=i'
  ·have:=hl.1;omega
  ·exact h.c x i' a' q hx (by omega) hl⟩
theorem dM.add{s:Sch}{list:List Pth}{P:List (List Int)}{w i a y:Nat}(h:dM s list P w i a)(hw:w<list.length)(hy:y<list.length)(hl:s.fu (list.getD w Pth.zero) i a (list.getD y Pth.zero)):dM s list (P++[[(w:Int),(y:Int)]]) w i (a+1):=by
 refine⟨fun p hp=>?_,fun x i' a' q hx hc hl'=>?_⟩
 ·rcases List.mem_append.1 hp with hp | hp
  ·exact h.v p hp
  ·rw[List.mem_singleton] at hp;exact⟨w,y,i,a,hp,hw,hy,hl⟩
 ·by_cases he:x=w/\i'=i/\a'=a
  ·obtain⟨rfl,rfl,rfl⟩:=he
   exact⟨y,hy,by rw[hl.2.2.2.2.2,hl'.2.2.2.2.2],by simp⟩
  ·obtain⟨z,z1,z2,z3⟩:=h.c x i' a' q hx (by omega) hl'
   exact⟨z,z1,z2,List.mem_append_left _ z3⟩
structure gU(s:Sch)(list:List Pth)(cl:List Int):Prop where
 len:cl.length=list.length
 ge:∀i,i<list.length->0<=cl.getD i 0/\cl.getD i 0<list.length
 eq:∀i j,i<list.length->j<list.length->(cl.getD i 0=cl.getD j 0↔s.eqv (list.getD i Pth.zero) (list.getD j Pth.zero))
theorem Dq{s:Sch}{φ:Pth->Int}(hφ:∀p i a q,s.sp p->s.fu p i a q->φ p=φ q){p q:Pth}(e:s.eqv p q):φ p=φ q:=by
 induction e with
 | refl=>rfl
 | lk hp hl=>exact hφ _ _ _ _ hp hl
 | symm _ ih=>exact ih.symm
 | trans _ _ i1 i2=>exact i1.trans i2
theorem L5{s:Sch}{p q:Pth}(e:s.eqv p q):s.eqv p=s.eqv q:=funext fun _=>propext ⟨e.symm.trans,e.trans⟩
end Go.D3
namespace Go.D3
open Go
theorem mz{l:List Pth}(hn:l.Nodup){j:Nat}(hj:j<l.length):lq l (l.getD j Pth.zero).st (l.getD j Pth.zero).ed=j:=by
 obtain⟨k,h1,h2,h3⟩:=rL (l:=l) (x:=(l.getD j Pth.zero).st) (ed:=(l.getD j Pth.zero).ed) (cH hj);have:l.getD k Pth.zero=l.getD j Pth.zero:=by rw[h3]
 rw[h1,getD_inj hn h2 hj this]
theorem gU.Pf{s:Sch}(h:s.ok=true){list:List Pth}(hA:di s list)(hn:list.Nodup){P:List (List Int)}(hP:dM s list P list.length 0 0){cl:List Int}(hj:lL (ch (bw list.length) P) cl):gU s list cl:=by
 have hl:(ch (bw list.length) P).length=list.length:=by rw[ri,dI]
 have hc:=(hP.ok h hA).cls hj;refine⟨hc.len,hc.ge,fun i j hi hj'=>⟨fun e=>?_,fun e=>?_⟩⟩
 ·have:=hj.same (fun i=>s.eqv (list.getD i Pth.zero)) (fun p hp=>by
   obtain⟨x,y,i',a',h1,h2,h3,h4⟩:=hP.v p hp
   exact⟨x,y,h2,h3,by rw[h1];rfl,by rw[h1];rfl,L5 (.lk (hA.at' h2) h4)⟩) hi hj' e
  exact(show s.eqv _=s.eqv _ from this)▸Sch.eqv.refl (hA.at' hj')
 ·have:=Dq (s:=s) (φ:=fun p=>cl.getD (lq list p.st p.ed).toNat 0) (fun p i a q hp hl'=>by
   obtain⟨y,hy⟩:=hp;obtain⟨x,hx,rfl⟩:=ew (d:=Pth.zero) (hA.a p y hy);obtain⟨z,z1,rfl,z2⟩:=hP.c x i a q hx (.inl hx) hl';show cl.getD _ 0=cl.getD _ 0;rw[mz hn hx,mz hn z1,Int.toNat_natCast,Int.toNat_natCast,hj.eq x z (by omega) (by omega)]
   exact MP z2 rfl rfl (by rw[dI];exact hx) (by rw[dI];exact z1)) e
  simp only[mz hn hi,mz hn hj',Int.toNat_natCast] at this;exact this
structure fk(s:Sch)(list:List Pth)(cl:List Int)(i:Nat)(ls:List Pth):Prop where
 lt:∀j,j<i->cl.getD j 0<ls.length
 ex:∀k:Nat,k<ls.length->∃j,j<i/\j<list.length/\cl.getD j 0=k/\ls.getD k Pth.zero=list.getD j Pth.zero/\∀j',j'<j->cl.getD j' 0<k
theorem fk.zero{s:Sch}{list:List Pth}{cl:List Int}:fk s list cl 0 []:=⟨fun _ hj=>absurd hj (Nat.not_lt_zero _),fun _ hk=>absurd hk (Nat.not_lt_zero _)⟩
theorem fk.old{s:Sch}{list:List Pth}{cl:List Int}{i:Nat}{ls:List Pth}(hf:∀(m:Nat),(∀q,q<i->cl.getD q 0<m)->cl.getD i 0<=m)(h:fk s list cl i ls)(hn:cl.getD i 0≠ls.length):fk s list cl (i+1) ls:=by
 refine⟨fun j hj=>?_,fun k hk=>?_⟩
 ·by_cases hji:j<i
  ·exact h.lt j hji
  ·rw[show j=i by omega]
   have:=hf ls.length h.lt;omega
 ·obtain⟨j,h1,h2⟩:=h.ex k hk
  exact⟨j,by omega,h2⟩
theorem fk.new{s:Sch}{list:List Pth}{cl:List Int}{i:Nat}{ls:List Pth}(h:fk s list cl i ls)(hi:i<list.length)(he:cl.getD i 0=ls.length):fk s list cl (i+1) (ls++[list.getD i Pth.zero]):=by
 have hlt:∀{k},k<ls.length->(ls++[list.getD i Pth.zero]).getD k Pth.zero=ls.getD k Pth.zero:=fun hk=>by rw[fV (by omega),if_neg (by omega)]
 have hel:(ls++[list.getD i Pth.zero]).getD ls.length Pth.zero=list.getD i Pth.zero:=by rw[fV (Nat.le_refl _),if_pos rfl]
 refine⟨fun j hj=>?_,fun k hk=>?_⟩
 ·rw[List.length_append,List.length_singleton]
  by_cases hji:j<i
  ·have:=h.lt j hji;omega
  ·rw[show j=i by omega];omega
 ·rw[List.length_append,List.length_singleton] at hk
  by_cases hkl:k<ls.length
  ·obtain⟨j,h1,h2,h3,h4,h5⟩:=h.ex k hkl
   exact⟨j,by omega,h2,h3,by rw[hlt hkl,h4],h5⟩
  ·obtain rfl:k=ls.length:=by omega
   exact⟨i,by omega,hi,he,hel,fun j' hj'=>h.lt j' hj'⟩
theorem fk.done{s:Sch}(hok:s.ok=true){list:List Pth}(hA:di s list)(hs:list.Pairwise s.lt){cl:List Int}(hc:gU s list cl){ls:List Pth}(h:fk s list cl list.length ls):s.cB ls:=by
 have hp:=List.pairwise_iff_getElem.1 hs;refine⟨fun p hp=>?_,?_,fun p hp' q he hlt=>?_,fun p hp'=>?_⟩
 ·obtain⟨k,hk,rfl⟩:=ew (d:=Pth.zero) hp
  obtain⟨j,_,h2,_,h4,_⟩:=h.ex k hk;rw[h4];exact hA.at' h2
 ·refine List.pairwise_iff_getElem.2 fun i j hi hj hij=>?_
  obtain⟨a,_,a2,a3,a4,a5⟩:=h.ex i hi;obtain⟨b,_,b2,b3,b4,b5⟩:=h.ex j hj;rw[<-aO (d:=Pth.zero) hi,<-aO (d:=Pth.zero) hj,a4,b4,aO a2,aO b2];refine hp a b a2 b2 ?_;by_cases hab:b<a
  ·have:=a5 b hab;omega
  ·by_cases hab2:a=b
   ·subst hab2;omega
   ·omega
 ·obtain⟨k,hk,rfl⟩:=ew (d:=Pth.zero) hp'
  obtain⟨a,_,a2,a3,a4,a5⟩:=h.ex k hk;obtain⟨y,hy⟩:=(lX hok he).2.2.2;obtain⟨b,hb,rfl⟩:=ew (d:=Pth.zero) (hA.a q y hy);rw[a4] at he hlt;have e:=(hc.eq a b a2 hb).2 he;by_cases hab:b<a
  ·have:=a5 b hab;omega
  ·by_cases hab2:a=b
   ·subst hab2;exact pC hlt
   ·refine lt_asymm hlt ?_
    rw[aO a2,aO hb];exact hp a b a2 hb (by omega)
 ·obtain⟨y,hy⟩:=hp'
  obtain⟨b,hb,rfl⟩:=ew (d:=Pth.zero) (hA.a p y hy);have h1:=h.lt b hb;have h2:=(hc.ge b hb).1;obtain⟨a,_,a2,a3,a4,_⟩:=h.ex (cl.getD b 0).toNat (by omega);refine⟨_,cH (i:=(cl.getD b 0).toNat) (d:=Pth.zero) (by omega),?_⟩;rw[a4];exact(hc.eq b a hb a2).1 (by omega)
theorem fk.gz{s:Sch}(hok:s.ok=true){list:List Pth}(hA:di s list)(hs:list.Pairwise s.lt){cl:List Int}(hc:gU s list cl){i:Nat}{ls:List Pth}(h:fk s list cl i ls)(hi:i<list.length)(he:cl.getD i 0=ls.length)(h6:¬(list.getD i Pth.zero).ed.length<6):s.fK none:=by
 obtain⟨m,hm⟩:=Sch.cB.of hok hA hs;refine .iV m hm fun ha=>?_
 obtain⟨q,hq,hqe⟩:=hm.ex _ (hA.at' hi);refine h6 ?_;have hp:=List.pairwise_iff_getElem.1 hs
 have:list.getD i Pth.zero=q:=by
  refine lt_eq (hm.min q hq _ hqe.symm) fun hlt=>?_
  obtain⟨y,hy⟩:=(lX hok hqe).2.2.2;obtain⟨b,hb,rfl⟩:=ew (d:=Pth.zero) (hA.a q y hy);have e:=(hc.eq i b hi hb).2 hqe;by_cases hb2:b<i
  ·have:=h.lt b hb2;omega
  ·by_cases hb3:i=b
   ·subst hb3;exact pC hlt
   ·refine lt_asymm hlt ?_
    rw[aO hi,aO hb];exact hp i b hi hb (by omega)
 rw[this];exact ha.1 q hq
theorem fk.no{s:Sch}(hok:s.ok=true){list:List Pth}(hA:di s list)(hs:list.Pairwise s.lt){cl:List Int}(hc:gU s list cl){ls:List Pth}(h:fk s list cl list.length ls){x:Int}{ed:List Int}{y:Int}(hy:s.aB ⟨x,ed⟩=some y) :
  ∃j k:Nat,lq list x ed=j/\j<cl.length/\cl.getD j 0=k/\k<ls.length/\s.no ls ⟨x,ed⟩=k/\(ls.getD k Pth.zero).st=x/\s.aB (ls.getD k Pth.zero)=some y:=by
 obtain⟨j,h1,h2,h3⟩:=rL (hA.a _ _ hy);have h4:=(hc.ge j h2).1;have h5:=h.lt j h2;obtain⟨k,hk⟩:∃k:Nat,cl.getD j 0=k:=⟨(cl.getD j 0).toNat,by omega⟩;obtain⟨a,_,a2,a3,a4,_⟩:=h.ex k (by omega);have he:=(hc.eq j a h2 a2).1 (by omega);rw[h3] at he;rw[<-a4] at he;have hE:=lX hok he;exact⟨j,k,h1,by rw[hc.len];exact h2,hk,by omega,(h.done hok hA hs hc).tP (by omega) he,hE.1.symm,by rw[<-hE.2.1,hy]⟩
theorem N6{s:Sch}{p q r:Pth}(h1:¬s.lt q p)(h2:¬s.lt r q):¬s.lt r p:=fun h=>by
 unfold Sch.lt at h h1 h2;rw[Bool.not_eq_true] at h1 h2;rw[tD h1 h2] at h;cases h
theorem JI{o:List Pth}{k:Nat}(hk0 : 0<k)(hk:k<o.length)(q:Nat):(nb o k).getD q Pth.zero=if q=k-1 then o.getD k Pth.zero else if q=k then o.getD (k-1) Pth.zero else o.getD q Pth.zero:=by
 unfold nb;have gs:∀{L:List Pth}{j:Nat}{x:Pth},j<L.length->(L.set j x).getD j Pth.zero=x:=fun h=>by rw[List.getD_eq_getElem?_getD,List.getElem?_set_self h];rfl
 have gn:∀{L:List Pth}{j q:Nat}{x:Pth},q≠j->(L.set j x).getD q Pth.zero=L.getD q Pth.zero:=fun h=>by rw[List.getD_eq_getElem?_getD,List.getElem?_set_ne (Ne.symm h),List.getD_eq_getElem?_getD]
 by_cases h1:q=k-1
 ·subst h1;rw[if_pos rfl,gs (by rw[List.length_set];omega)]
 ·rw[if_neg h1,gn h1]
  by_cases h2:q=k
  ·subst h2;rw[if_pos rfl,gs hk]
  ·rw[if_neg h2,gn h2]
theorem Vl{s:Sch}{o:List Pth}{k i:Nat}(hk0 : 0<k)(hk:k<o.length)(hlx:s.lt (o.getD k Pth.zero) (o.getD (k-1) Pth.zero))
  (hs:∀(p q:Nat),p<q->q<=i->q≠k->¬s.lt (o.getD q Pth.zero) (o.getD p Pth.zero)) (p q:Nat) (hpq:p<q) (hq:q<=i) (hqk:q≠k-1):¬s.lt ((nb o k).getD q Pth.zero) ((nb o k).getD p Pth.zero):=by
 rw[JI hk0 hk,JI hk0 hk,if_neg hqk];by_cases h1:q=k
 ·rw[if_pos h1]
  by_cases h2:p=k-1
  ·rw[if_pos h2];exact lt_asymm hlx
  ·rw[if_neg h2,if_neg (by omega)];exact hs p (k-1) (by omega) (by omega) (by omega)
 ·rw[if_neg h1]
  by_cases h2:p=k-1
  ·rw[if_pos h2];exact hs k q (by omega) hq h1
  ·rw[if_neg h2]
   by_cases h3:p=k
   ·rw[if_pos h3];exact hs (k-1) q (by omega) hq h1
   ·rw[if_neg h3];exact hs p q hpq hq h1
end Go.D3
