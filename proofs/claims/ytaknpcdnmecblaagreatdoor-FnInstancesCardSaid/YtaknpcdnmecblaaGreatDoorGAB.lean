/- PLAIN LAWS: least paths of a list in any order. -/
import Derived.Test.YtaknpcdnmecblaaGreatDoorGAA
namespace Go.D3
open Go Proofs
set_option maxHeartbeats 4000000
set_option maxRecDepth 100000
def iX(p:List Int)(n:Nat):List (List Int):=(List.range n).map fun i:Nat=>[gq p (p.getD i 0),(i:Int)]
theorem uh{p:List Int}{n:Nat}:(iX p n).length=n:=by simp[iX]
theorem Wt{p:List Int}{n:Nat}:iX p (n+1)=iX p n++[[gq p (p.getD n 0),(n:Int)]]:=by
 unfold iX;rw[List.range_succ,List.map_append];rfl
theorem Oj{l:List (List Int)}{a b:Int}:(ae ints [] l).dh [.slice (.int .i64 0) [.int .i64 a,.int .i64 b]]=aC (l++[[a,b]]):=by
 simp only[ae,D.dh,aC,List.map_append,List.map_cons,List.map_nil]
attribute [go_sem high] Oj
def Dj:List Nat:=[0,2,3,4]
def Ll:Sl:=ah Tryz.types Tryz.f220 Dj []
theorem U0:aE Tryz.prog Tryz.f220 Dj Ll 1=true:=by decide +kernel
theorem YR(p:List Int)(hp:p.length<=1048576):aA Tryz.prog 220 [.v (ints p)] (aC (iX p p.length)):=by
 refine aQ Tryz.func220 U0 ?_;unfold Ll ah Dj;simp only[go_sem];refine au [] (fun(i:Nat)=>[(2,.o (aC (iX p i))),(3,.int .i64 i)]) (fun i=>i<=p.length) (fun i=>p.length-i) 0 (by simp only[go_sem];rfl) (Nat.zero_le _) rfl ?_;intro i hi;simp only[go_sem];refine⟨fun h=>⟨h,aj (JA p (p.getD i 0) hp) rfl (.inl rfl) ?_⟩,fun h=>by rw[show i=p.length by omega]⟩;simp only[go_sem];exact⟨by rw[uh];omega,i+1,h,by omega,by rw[aw h (by simp only[maxLen];omega),Wt]⟩
def C8:List Nat:=[0,2,3,4,5,6]
def La:Sl:=ah Tryz.types Tryz.f237 C8 []
theorem UO:aE Tryz.prog Tryz.f237 C8 La 1=true:=by decide +kernel
theorem YO(l:List Int)(Y:l.length<=1048576):aA Tryz.prog 237 [.v (ints l)] (ints (cT l)):=by
 refine aQ Tryz.func237 UO ?_;unfold La ah C8;simp only[go_sem];refine au [5] (fun(i:Nat)=>[(2,.o (ints (eM (l.take i)).2)),(3,.o (ints (eM (l.take i)).1)),(4,.int .i64 i)]) (fun i=>i<=l.length) (fun i=>l.length-i) 0 (by simp only[go_sem];rfl) (Nat.zero_le _) rfl ?_;intro i hi;have V:=pv (L:=l) i hi;have h1:=V.len;have W:=V.sle hi;simp only[go_sem];refine⟨fun h=>⟨h,aj (JA _ _ (by omega)) rfl (.inl rfl) ?_⟩,fun h=>?_⟩
 ·have I:eM (l.take (i+1))=ky (eM (l.take i)) (l.getD i 0):=by rw[b7 h 0,yq]
  have hw:=aw h (show l.length<=maxLen by simp only[maxLen];omega);generalize eM (l.take i)=st at I h1 W;simp only[go_sem];refine⟨fun S=>?_,fun S=>?_⟩
  ·refine⟨h,by omega,by omega,i+1,h,by omega,?_⟩
   rw[I,ky,if_pos S,hw]
  ·refine⟨by omega,i+1,h,by omega,?_⟩
   rw[I,ky,if_neg S,hw]
 ·rw[List.take_of_length_le (by omega)];rfl
theorem H2{n:Nat}:bk (n+1)=bk n++[(n:Int)]:=by unfold bk;rw[List.range_succ,List.map_append];rfl
theorem Jc{l:List Int}{a b:Int}{i:Nat}(h:i<l.length):((dK l a b).take i++l.drop i).getD i 0=l.getD i 0:=by
 rw[List.getD_eq_getElem?_getD,List.getElem?_append_right (by rw[List.length_take,iY];omega),List.length_take,iY,Nat.min_eq_left (by omega),Nat.sub_self,List.getElem?_drop,Nat.add_zero,List.getD_eq_getElem?_getD]
theorem Xt{l:List Int}{a b:Int}{i:Nat}(h:i<l.length):(dK l a b).take (i+1)++l.drop (i+1)=((dK l a b).take i++l.drop i).set i (if l.getD i 0=b then a else l.getD i 0):=by
 have I:i<(dK l a b).length:=by rw[iY];exact h
 rw[List.drop_eq_getElem_cons h,List.set_append_right _ _ (by rw[List.length_take];omega),List.length_take,Nat.min_eq_left (by omega),Nat.sub_self,List.set_cons_zero,b7 I 0,si h,List.append_assoc];rfl
def Dd:List Nat:=[0,1,4,5,6,7,8,9,10]
def Lf:Sl:=ah Tryz.types Tryz.f178 Dd []
theorem UT:aE Tryz.prog Tryz.f178 Dd Lf 2=true:=by decide +kernel
theorem A9(n:Nat)(P:List (List Int))(hn:n<=1048576)(hl:P.length<=1048576)(hP:∀k,k<P.length->∃a b:Nat,P.getD k []=[(a:Int),(b:Int)]/\a<n/\b<n):aA Tryz.prog 178 [.v (.int .i64 n),.v (aC P)] (ints (cT (bV (bk n) P))):=by
 refine aQ Tryz.func178 UT ?_;unfold Lf ah Dd;simp only[go_sem];refine au [] (fun(i:Nat)=>[(3,.o (ints (bk i))),(4,.int .i64 i)]) (fun i=>i<=n) (fun i=>n-i) 0 (by simp only[go_sem];rfl) (Nat.zero_le _) rfl ?_;intro i hi;simp only[go_sem];refine⟨fun h=>⟨by rw[dq];omega,i+1,by omega,by omega,by rw[aw (show i<n by omega) (by simp only[maxLen];omega),H2]⟩,fun h=>?_⟩;obtain rfl:i=n:=by omega
 refine au [6,7,8] (fun(k:Nat)=>[(3,.o (ints (bV (bk i) (P.take k)))),(5,.int .i64 k)]) (fun k=>k<=P.length) (fun k=>P.length-k) 0 (by simp only[go_sem];rfl) (Nat.zero_le _) rfl ?_;intro k hk;have hL:(bV (bk i) (P.take k)).length=i:=by rw[pR,dq]
 simp only[go_sem];refine⟨fun S=>?_,fun S=>?_⟩
 ·obtain⟨u,v,hp,hu,hv⟩:=hP k S
  have Y:bV (bk i) (P.take (k+1))=dK (bV (bk i) (P.take k)) ((bV (bk i) (P.take k)).getD u 0) ((bV (bk i) (P.take k)).getD v 0):=by
   rw[b7 S [],Q3,hp];rfl
  have hw:=aw S (show P.length<=maxLen by simp only[maxLen];omega);rw[hp];simp only[List.getD_cons_zero,List.getD_cons_succ,Int.toNat_natCast,List.length_cons,List.length_nil];generalize bV (bk i) (P.take k)=L at Y hL;generalize L.getD u 0=x at Y;generalize L.getD v 0=y at Y;refine⟨S,by omega,by omega,S,by omega,by omega,?_⟩;refine au [] (fun(j:Nat)=>[(3,.o (ints ((dK L x y).take j++L.drop j))),(8,.int .i64 j)]) (fun j=>j<=L.length) (fun j=>L.length-j) 0 (by simp only[go_sem];rfl) (Nat.zero_le _) rfl ?_;intro j hj;have Z:((dK L x y).take j++L.drop j).length=L.length:=by rw[List.length_append,List.length_take,List.length_drop,iY];omega
  simp only[go_sem];simp only[Z];refine⟨fun I=>?_,fun I=>?_⟩
  ·simp only[Bool.and_eq_true,decide_eq_true_eq,bne_iff_ne] at I
   have aK:=Xt (a:=x) (b:=y) I.1;have ab:=aw I.1 (show L.length<=maxLen by simp only[maxLen];omega);rw[Jc I.1,ab];refine⟨I.1,fun V=>⟨I.1,I.1,j+1,I.1,by omega,?_⟩,fun V=>⟨j+1,I.1,by omega,?_⟩⟩
   ·rw[aK,if_pos V]
   ·have V:L.getD j 0≠y:=by simpa using V
    rw[aK,if_neg V]
    have e:((dK L x y).take j++L.drop j).set j (L.getD j 0)=(dK L x y).take j++L.drop j:=by
     rw[<-Jc (a:=x) (b:=y) I.1,aM (by omega),List.set_getElem_self]
    rw[e]
  ·have:(dK L x y).take j++L.drop j=dK L x y:=by
    by_cases W:x=y
    ·have:dK L x y=L:=by
      subst W;unfold dK
      conv=>rhs;rw[<-List.map_id L]
      refine List.map_congr_left fun z _=>?_
      show(if z=x then x else z)=z;split<;>simp_all
     rw[this,List.take_append_drop]
    ·have:¬j<L.length:=fun V=>by simp[V,W] at I
     rw[List.take_of_length_le (by rw[iY];omega),List.drop_of_length_le (by omega),List.append_nil]
   exact⟨k+1,S,by omega,by rw[Y,this,hw]⟩
 ·rw[List.take_of_length_le (by omega)]
  refine aj (YO _ (by rw[pR,dq];exact hn)) rfl (.inl (bJ _)) ?_;simp only[go_sem]
def DS:List Nat:=[0,1,4]
def L0:Sl:=ah Tryz.types Tryz.f105 DS []
theorem Vz:aE Tryz.prog Tryz.f105 DS L0 2=true:=by decide +kernel
theorem Y9(n:Nat)(P:List (List Int))(V:n<=1048576)(S:P.length<=1048576)(I:∀k,k<P.length->∃a b:Nat,P.getD k []=[(a:Int),(b:Int)]/\a<n/\b<n):aA Tryz.prog 105 [.v (.int .i64 n),.v (aC P)] (ints (cT (bV (bk n) P))):=by
 refine aQ Tryz.func105 Vz ?_;unfold L0 ah DS;simp only[go_sem];refine aj (A9 n P V S I) rfl (.inl (bJ _)) ?_;simp only[go_sem]
end Go.D3
namespace Go.D3
open Go Proofs
set_option maxHeartbeats 4000000
set_option maxRecDepth 100000
def D0:List Nat:=[0,1,2,6,7]
def L9:Sl:=ah Tryz.types Tryz.f107 D0 []
theorem VH:aE Tryz.prog Tryz.f107 D0 L9 3=true:=by decide +kernel
theorem uB(l:List U)(x:Int)(ed:List Int)(W:l.length<=1048576)(he:∀i,i<l.length->(l.getD i U.zero).ed.length<=1048576) :
  aA Tryz.prog 107 [.v (ae U.d U.zero l),.v (.int .i64 x),.v (ints ed)] (.int .i64 (nn l x ed)):=by
 refine aQ Tryz.func107 VH ?_;unfold L9 ah D0;simp only[go_sem];refine au [] (fun i:Nat=>[(4,.int .i64 i)]) (fun i=>i<=l.findIdx fun p=>p.st == x&&p.ed == ed) (fun i=>l.length-i) 0 (by simp only[go_sem];rfl) (Nat.zero_le _) rfl ?_;intro i hi;have S:=List.findIdx_le_length (p:=fun p:U=>p.st == x&&p.ed == ed) (xs:=l);have hp:nn l x ed=if l.findIdx (fun p=>p.st == x&&p.ed == ed)<l.length then((l.findIdx (fun p=>p.st == x&&p.ed == ed):Nat):Int) else -1:=rfl
 simp only[go_sem];refine⟨fun h1=>⟨h1,fun I=>⟨I,h1⟩,bf (fun _=>ss _ _ (he i h1)) rfl (fun h=>h) (.inl rfl) ?_⟩,fun h1=>?_⟩
 ·simp only[go_sem]
  refine⟨fun I=>?_,fun I=>⟨i+1,?_,by omega,by rw[aw h1 (by simp only[maxLen];omega)]⟩⟩
  ·have:l.findIdx (fun p=>p.st == x&&p.ed == ed)<=i:=by
    apply Nat.le_of_not_lt;intro V;have:=List.not_of_lt_findIdx V;rw[<-aM (d:=U.zero) h1,I] at this;cases this
   have e:l.findIdx (fun p=>p.st == x&&p.ed == ed)=i:=by omega
   rw[hp,e,if_pos h1]
  ·by_cases hlt:i<l.findIdx fun p=>p.st == x&&p.ed == ed
   ·omega
   ·have e:l.findIdx (fun p=>p.st == x&&p.ed == ed)=i:=by omega
    have:=List.findIdx_getElem (w:=show l.findIdx (fun p=>p.st == x&&p.ed == ed)<l.length by omega);simp only[e] at this;rw[<-aM (d:=U.zero) h1,I] at this;cases this
 ·rw[hp,if_neg (by omega)]
def fH(p:U)(y:Int):List Int:=[p.st,y,p.ed.length]++p.ed
def DX:List Nat:=[0,1,2,6,3,4,5,7,8]
def L6:Sl:=ah Tryz.types Tryz.f177 DX []
theorem VE:aE Tryz.prog Tryz.f177 DX L6 3=true:=by decide +kernel
theorem Zd(s:aa)(p q:U)(y z:Int)(I:s.to.length=s.fr.length)(hp:s.aO p=some y)(S:s.aO q=some z):aA Tryz.prog 177 [.v (aa.d s),.v (U.d p),.v (U.d q)] (.bool (lexB (fH p y) (fH q z))):=by
 refine aQ Tryz.func177 VE ?_;unfold L6 ah DX;simp only[go_sem];have V:=(bN.1 hp).2.1;have W:=(bN.1 S).2.1;refine aj (qw s p y I hp) rfl (.inl rfl) ?_;simp only[go_sem];refine⟨oP _,by rw[List.length_map];omega,aj (qw s q z I S) rfl (.inl rfl) ?_⟩;simp only[go_sem];refine⟨oP _,by rw[List.length_map];omega,aj (JB (fH p y) (fH q z) (by simp only[fH,List.length_append,List.length_cons,List.length_nil];omega)) rfl (.inl rfl) ?_⟩;simp only[go_sem]
def eZ:Option U->D
 | some p=>.agg [.int .i64 p.st,.vw (ints p.ed)]
 | none=>.agg [.int .i64 0,ints []]
structure aW where
 c:af
 ls:List U
 ed:List Int
def aW.cells(x:aW):List D:=[.int .i64 x.c.ob,ints x.c.fr,ints x.c.to,ints x.c.an,aC x.c.co,ae eZ none (x.ls.map some),ints x.ed]
def aW.d(x:aW):D:=.agg x.cells
attribute [go_sem] aW.d.eq_1 aW.cells.eq_1
def aW.arr(x:aW)(p:U)(i:Nat):Int:=(p.ed.take i).foldl (fun h e=>x.c.bH h (x.ed.getD e.toNat 0)) (x.c.fG p.st)
def DQ:List Nat:=[0,1,4,2,3,5,6]
def LY:Sl:=ah Tryz.types Tryz.f109 DQ []
theorem Vx:aE Tryz.prog Tryz.f109 DQ LY 2=true:=by decide +kernel
theorem Y7(x:aW)(p:U)(V : 0<=p.st/\p.st<x.c.an.length)(he:∀i,i<p.ed.length->0<=p.ed.getD i 0/\p.ed.getD i 0<x.ed.length)
  (h:∀i,i<p.ed.length->(0<=x.arr p i/\x.arr p i<x.c.co.length)/\0<=x.ed.getD (p.ed.getD i 0).toNat 0/\x.ed.getD (p.ed.getD i 0).toNat 0<(x.c.co.getD (x.arr p i).toNat []).length) (W:p.ed.length<=1048576) :
  aA Tryz.prog 109 [.v (aW.d x),.v (U.d p)] (.int .i64 (x.arr p p.ed.length)):=by
 refine aQ Tryz.func109 Vx ?_;unfold LY ah DQ;simp only[go_sem];refine⟨V,?_⟩;refine au [] (fun(i:Nat)=>[(5,.int .i64 (x.arr p i)),(6,.int .i64 i)]) (fun i=>i<=p.ed.length) (fun i=>p.ed.length-i) 0 (by simp only[go_sem];rfl) (Nat.zero_le _) rfl ?_;intro i hi;simp only[go_sem];refine⟨fun h1=>?_,fun h1=>by rw[show i=p.ed.length by omega]⟩;obtain⟨I,S⟩:=h i h1;refine⟨I,h1,he i h1,S,i+1,h1,by omega,?_⟩
 have e:x.arr p (i+1)=(x.c.co.getD (x.arr p i).toNat []).getD (x.ed.getD (p.ed.getD i 0).toNat 0).toNat 0:=by
  unfold aW.arr;rw[b7 h1 0,List.foldl_append];rfl
 rw[e,aw h1 (by simp only[maxLen];omega)]
end Go.D3
namespace Go.D3
open Go
theorem Hm:∀a:List Int,lexB a a=false
 | []=>rfl
 | x::l=>by simp only[lexB,if_true];exact Hm l
theorem tE:∀{a b:List Int},lexB a b=true->lexB b a=false
 | [],[],_=>rfl
 | [],_::_,_=>rfl
 | _::_,[],h=>by cases h
 | a::l,b::r,h=>by
  unfold lexB at h|-
  by_cases e:a=b
  ·rw[if_pos e] at h;rw[if_pos e.symm];exact tE h
  ·rw[if_neg e] at h;rw[if_neg (Ne.symm e)];simp at h|-;omega
theorem wb:∀{a b c:List Int},lexB b a=false->lexB c b=false->lexB c a=false
 | [],_,[],_,_=>rfl
 | [],_,_::_,_,_=>rfl
 | _::_,[],_,h,_=>by cases h
 | _::_,_::_,[],_,h=>by cases h
 | a::l,b::r,c::s,h1,h2=>by
  unfold lexB at h1 h2|-
  by_cases S:b=a
  ·subst S
   rw[if_pos rfl] at h1;by_cases I:c=b
   ·subst I;rw[if_pos rfl] at h2|-;exact wb h1 h2
   ·rw[if_neg I] at h2|-;exact h2
  ·rw[if_neg S] at h1
   by_cases I:c=b
   ·subst I;rw[if_neg S];exact h1
   ·rw[if_neg I] at h2
    simp at h1 h2;rw[if_neg (by omega)];simp;omega
theorem Hl:∀{a b:List Int},lexB a b=false->lexB b a=false->a=b
 | [],[],_,_=>rfl
 | [],_::_,h,_=>by cases h
 | _::_,[],_,h=>by cases h
 | a::l,b::r,h1,h2=>by
  unfold lexB at h1 h2;by_cases e:a=b
  ·subst e;rw[if_pos rfl] at h1 h2;rw[Hl h1 h2]
  ·rw[if_neg e] at h1;rw[if_neg (Ne.symm e)] at h2;simp at h1 h2;omega
def aa.sp(s:aa)(p:U):Prop:=∃y,s.aO p=some y
def aa.en(s:aa)(p:U):Int:=(s.aO p).getD 0
def aa.gu(s:aa)(p:U)(i a:Nat)(q:U):Prop :=
 i<s.lf.length/\a+(s.lf.getD i U.zero).ed.length<=p.ed.length/\bp s.fr s.to p.st (p.ed.take a)=some (s.lf.getD i U.zero).st /\
 (p.ed.take (a+(s.lf.getD i U.zero).ed.length)).drop a=(s.lf.getD i U.zero).ed/\p.ed.length-(s.lf.getD i U.zero).ed.length+(s.rt.getD i U.zero).ed.length<=6 /\
 q=⟨p.st,p.ed.take a++(s.rt.getD i U.zero).ed++p.ed.drop (a+(s.lf.getD i U.zero).ed.length)⟩
theorem Hq{s:aa}(h:s.ok=true){p q:U}{y:Int}{i a:Nat}(hp:s.aO p=some y)(hl:s.gu p i a q):q.st=p.st/\s.aO q=some y:=by
 obtain⟨hi,h1,W,Y,Z,rfl⟩:=hl;obtain⟨z,I,S,V⟩:=ok_eq h hi;exact⟨rfl,vz hp I S V h1 W rfl Y Z⟩
inductive aa.eqv(s:aa):U->U->Prop
 | refl {p:U}:s.sp p->s.eqv p p
 | lk {p q:U} {i a:Nat}:s.sp p->s.gu p i a q->s.eqv p q
 | symm {p q:U}:s.eqv p q->s.eqv q p
 | trans {p q r:U}:s.eqv p q->s.eqv q r->s.eqv p r
theorem jN{s:aa}(h:s.ok=true){p q:U}(e:s.eqv p q):p.st=q.st/\s.aO p=s.aO q/\s.sp p/\s.sp q:=by
 induction e with
 | refl hp=>exact⟨rfl,rfl,hp,hp⟩
 | lk hp V =>
  obtain⟨y,S⟩:=hp;have:=Hq h S V;exact⟨this.1.symm,by rw[S,this.2],⟨y,S⟩,⟨y,this.2⟩⟩
 | symm _ I=>exact⟨I.1.symm,I.2.1.symm,I.2.2.2,I.2.2.1⟩
 | trans _ _ i1 i2=>exact⟨i1.1.trans i2.1,i1.2.1.trans i2.2.1,i1.2.2.1,i2.2.2.2⟩
def aa.lt(s:aa)(p q:U):Prop:=lexB (fH p (s.en p)) (fH q (s.en q))=true
theorem lt_asymm{s:aa}{p q:U}(h:s.lt p q):¬s.lt q p:=fun I=>by
 have:=tE h;unfold aa.lt at I;rw[this] at I;cases I
theorem rL{s:aa}{p:U}:¬s.lt p p:=fun h=>lt_asymm h h
theorem lt_eq{s:aa}{p q:U}(h1:¬s.lt p q)(I:¬s.lt q p):p=q:=by
 unfold aa.lt at h1 I;rw[Bool.not_eq_true] at h1 I;have:=Hl h1 I;unfold fH at this;simp only[List.cons_append,List.nil_append,List.cons.injEq] at this;cases p;cases q;simp only at this;rw[this.1,this.2.2.2]
theorem lt_trans{s:aa}{p q r:U}(h1:s.lt p q)(I:s.lt q r):s.lt p r:=by
 have a:=tE h1;have b:=tE I;have c:=wb a b;by_cases h:s.lt p r
 ·exact h
 ·obtain rfl:=lt_eq h (by unfold aa.lt;rw[c];exact Bool.noConfusion)
  exact absurd h1 (lt_asymm I)
structure aa.cF(s:aa)(ls:List U):Prop where
 sp:∀p∈ls,s.sp p
 qI:ls.Pairwise s.lt
 min:∀p∈ls,∀q,s.eqv p q->¬s.lt q p
 ex:∀p,s.sp p->∃q∈ls,s.eqv p q
theorem aa.cF.sub{s:aa}{l m:List U}(h:s.cF l)(g:s.cF m):∀p∈l,p∈m:=fun p hp=>by
 obtain⟨q,I,he⟩:=g.ex p (h.sp p hp)
 rwa [lt_eq (g.min q I p he.symm) (h.min p hp q he)]
theorem aa.cF.nodup{s:aa}{l:List U}(h:s.cF l):l.Nodup:=h.qI.imp fun {a b} I=>show a≠b from fun e=>rL (e▸I)
theorem aa.cF.uniq{s:aa}{l m:List U}(h:s.cF l)(g:s.cF m):l=m :=
 ((List.perm_ext_iff_of_nodup h.nodup g.nodup).2 fun p=>⟨h.sub g p,g.sub h p⟩).eq_of_pairwise (fun _ _ _ _ h1 I=>absurd h1 (lt_asymm I)) h.qI g.qI
open Classical in
noncomputable def aa.no(s:aa)(ls:List U)(p:U):Int:=if h:∃k:Nat,k<ls.length/\s.eqv p (ls.getD k U.zero) then((Classical.choose h:Nat):Int) else 0
theorem dj{α:Type}{l:List α}{i:Nat}{d:α}(h:i<l.length):l.getD i d∈l:=by rw[aM h];exact List.getElem_mem _
theorem ff{α:Type}{l:List α}{x d:α}(h:x∈l):∃i,i<l.length/\l.getD i d=x:=by
 obtain⟨i,hi,e⟩:=List.getElem_of_mem h;exact⟨i,hi,by rw[aM hi,e]⟩
theorem aa.cF.inj{s:aa}{ls:List U}(h:s.cF ls){j k:Nat}(I:j<ls.length)(hk:k<ls.length)(e:s.eqv (ls.getD j U.zero) (ls.getD k U.zero)):j=k:=by
 have a:=h.min _ (dj I) _ e;have b:=h.min _ (dj hk) _ e.symm;have c:=lt_eq b a;rw[aM I,aM hk] at c;exact(List.getElem_inj h.nodup).1 c
theorem aa.cF.wu{s:aa}{ls:List U}(h:s.cF ls){p:U}{k:Nat}(hk:k<ls.length)(e:s.eqv p (ls.getD k U.zero)):s.no ls p=k:=by
 have I:∃k:Nat,k<ls.length/\s.eqv p (ls.getD k U.zero):=⟨k,hk,e⟩;unfold aa.no;rw[dif_pos I];have:=Classical.choose_spec I;rw[h.inj this.1 hk (this.2.symm.trans e)]
theorem aa.cF.wv{s:aa}{ls:List U}(h:s.cF ls){p:U}(hp:s.sp p):∃k:Nat,s.no ls p=k/\k<ls.length/\s.eqv p (ls.getD k U.zero):=by
 obtain⟨q,I,he⟩:=h.ex p hp;obtain⟨k,hk,rfl⟩:=ff (d:=U.zero) I;exact⟨k,h.wu hk he,hk,he⟩
noncomputable def aa.ju(s:aa)(ls:List U)(h e:Int):Int:=s.no ls ⟨(ls.getD h.toNat U.zero).st,(ls.getD h.toNat U.zero).ed++[e]⟩
noncomputable def aa.cmp(s:aa)(ls:List U)(f g:Nat):Int :=
 if s.en (ls.getD f U.zero)=(ls.getD g U.zero).st then(ls.getD g U.zero).ed.foldl (s.ju ls) f else -1
noncomputable def aa.bu(s:aa)(ls:List U):aW :=
 { c:={ ob:=s.nd,fr:=ls.map U.st,to:=ls.map s.en,an:=(List.range s.nd.toNat).map fun x:Nat=>s.no ls ⟨x,[]⟩,co:=(List.range ls.length).map fun f=>(List.range ls.length).map fun g=>s.cmp ls f g },ls,ed:=(List.range s.fr.length).map fun k:Nat=>s.no ls ⟨s.fr.getD k 0,[(k:Int)]⟩ }
def aa.fits(s:aa):Prop:=∃l:List U,l.Nodup/\dQ s l/\l.length<=400
def aa.fT(s:aa)(x:aW):Bool:=x.c.cU&&(cS x.ls.length fun f=>x.arr (x.ls.getD f U.zero) (x.ls.getD f U.zero).ed.length == (f:Int)) &&
 cS s.lf.length fun i=>x.arr (s.lf.getD i U.zero) (s.lf.getD i U.zero).ed.length == x.arr (s.rt.getD i U.zero) (s.rt.getD i U.zero).ed.length
def aa.all(s:aa)(ls:List U):Prop:=(∀p∈ls,p.ed.length<6)/\ls.length<=40/\s.fT (s.bu ls)=true
inductive aa.gK(s:aa):Option aW->Prop
 | many:¬s.fits->s.gK none
 | jY (ls:List U):s.cF ls->¬s.all ls->s.gK none
 | yes (ls:List U):s.fits->s.cF ls->s.all ls->s.gK (some (s.bu ls))
theorem gK.uniq{s:aa}{a b:Option aW}(W:s.gK a)(I:s.gK b):a=b:=by
 cases W with
 | many h=>cases I with
  | many=>rfl
  | jY=>rfl
  | yes _ g=>exact absurd g h
 | jY l Y h=>cases I with
  | many=>rfl
  | jY=>rfl
  | yes m _ g1 g2=>rw[Y.uniq g1] at h;exact absurd g2 h
 | yes l h1 S V=>cases I with
  | many g=>exact absurd h1 g
  | jY m g1 g2=>rw[S.uniq g1] at V;exact absurd V g2
  | yes m g1 g2 g3=>rw[S.uniq g2]
noncomputable def aa.cn(s:aa):Option aW:=Classical.epsilon s.gK
theorem oH{s:aa}{o:Option aW}(h:s.gK o):s.cn=o:=gK.uniq (Classical.epsilon_spec ⟨o,h⟩) h
end Go.D3
namespace Go.D3
open Go
theorem zU{α:Type}:∀{A B:List α},A.Nodup->(∀x∈A,x∈B)->A.length<=B.length
 | [],_,_,_=>Nat.zero_le _
 | x::A,B,h,hs=>by
  classical
  rw[List.nodup_cons] at h;have I:=hs x List.mem_cons_self;have:=zU (A:=A) (B:=B.erase x) h.2 fun y S=>(List.mem_erase_of_ne (show y≠x from fun e=>h.1 (by rw[<-e];exact S))).2 (hs y (List.mem_cons_of_mem _ S))
  rw[List.length_erase_of_mem I] at this;have:=List.length_pos_of_mem I;rw[List.length_cons];omega
theorem Tn{α:Type}{l:List α}{x:α}(h:l.Nodup)(V:x ∉ l):(l++[x]).Nodup:=by
 rw[List.nodup_append];refine⟨h,by simp,fun a S b I=>?_⟩;rw[List.mem_singleton] at I;rintro rfl;exact V (I▸S)
theorem getD_inj{α:Type}{l:List α}{d:α}(h:l.Nodup){i j:Nat}(hi:i<l.length)(I:j<l.length)(e:l.getD i d=l.getD j d):i=j:=by
 rw[aM hi,aM I] at e;exact(List.getElem_inj h).1 e
structure jE(o:List U)(i k:Nat):Prop where
 nd:o.Nodup
 f:∀p∈o,p.ed=[]\/∃j e:Nat,j<o.length/\(j<i\/j=i/\e<k)/\p=⟨(o.getD j U.zero).st,(o.getD j U.zero).ed++[(e:Int)]⟩
theorem jE.zero{n:Nat}:jE (jm n) 0 0:=by
 refine⟨?_,fun p hp=>.inl ?_⟩
 ·unfold jm
  rw[List.nodup_iff_pairwise_ne,List.pairwise_map];refine List.pairwise_lt_range.imp fun {a b} h e=>?_
  injection e with e
  omega
 ·obtain⟨x,_,rfl⟩:=List.mem_map.1 hp;rfl
theorem jE.mono{o:List U}{i k I S:Nat}(h:jE o i k)(hi:i<I\/i=I/\k<=S):jE o I S:=by
 refine⟨h.nd,fun p hp=>?_⟩;rcases h.f p hp with h1 | ⟨j,e,h1,W,V⟩
 ·exact .inl h1
 ·exact .inr ⟨j,e,h1,by omega,V⟩
theorem jE.add{o:List U}{i k:Nat}(h:jE o i k)(hi:i<o.length):jE (o++[⟨(o.getD i U.zero).st,(o.getD i U.zero).ed++[(k:Int)]⟩]) i (k+1):=by
 have hg:∀{j},j<o.length->(o++[(⟨(o.getD i U.zero).st,(o.getD i U.zero).ed++[(k:Int)]⟩:U)]).getD j U.zero=o.getD j U.zero:=fun Z=>by rw[ee (by omega),if_neg (by omega)]
 refine⟨Tn h.nd fun hm=>?_,fun p hp=>?_⟩
 ·rcases h.f _ hm with h1 | ⟨j,e,h1,W,I⟩
  ·simp at h1
  ·injection I with I V
   have S:=List.append_inj_left' V rfl;have Y:=List.append_inj_right' V rfl
   have:o.getD i U.zero=o.getD j U.zero:=by
    cases hx:o.getD i U.zero;cases hy:o.getD j U.zero;rw[hx,hy] at I S;simp only at I S;rw[I,S]
   have:=getD_inj h.nd hi h1 this;simp at Y;omega
 ·rcases List.mem_append.1 hp with hp | hp
  ·rcases h.f p hp with h1 | ⟨j,e,h1,W,I⟩
   ·exact .inl h1
   ·exact .inr ⟨j,e,by rw[List.length_append];omega,by omega,by rw[hg h1];exact I⟩
  ·rw[List.mem_singleton] at hp
   exact .inr ⟨i,k,by rw[List.length_append];omega,.inr ⟨rfl,by omega⟩,by rw[hg hi];exact hp⟩
theorem HR{s:aa}{o:List U}(I:o.Nodup)(S:∀p∈o,∃y,s.aO p=some y)(W : 400<o.length):¬s.fits:=fun⟨m,_,hA,hm⟩=>by
 have:=zU I fun p hp=>by obtain⟨y,V⟩:=S p hp;exact hA.a p y V
 omega
theorem aa.cF.of{s:aa}(h:s.ok=true){list:List U}(hA:dQ s list)(Y:list.Pairwise s.lt):∃ls,s.cF ls:=by
 classical
 refine⟨list.filter fun p=>decide (∀q,s.eqv p q->¬s.lt q p),fun p hp=>?_,Y.filter _,fun p hp=>?_,fun p hp=>?_⟩
 ·exact hA.v p (List.mem_filter.1 hp).1
 ·simpa using(List.mem_filter.1 hp).2
 ·
  obtain⟨y,Z⟩:=hp;have hm:=hA.a p y Z;have V:list.findIdx (fun q=>decide (s.eqv p q))<list.length:=List.findIdx_lt_length_of_exists ⟨p,hm,by simpa using aa.eqv.refl ⟨y,Z⟩⟩;have he:=List.findIdx_getElem (w:=V);have he:s.eqv p list[list.findIdx fun q=>decide (s.eqv p q)]:=by simpa using he
  refine⟨_,List.mem_filter.2 ⟨List.getElem_mem V,?_⟩,he⟩;simp only[decide_eq_true_eq];intro q W I;obtain⟨z,hz⟩:=(jN h W).2.2.2;obtain⟨j,hj,rfl⟩:=List.getElem_of_mem (hA.a q z hz)
  have ab:¬j<list.findIdx fun q=>decide (s.eqv p q):=fun hh=>by
   have:=List.not_of_lt_findIdx hh;rw[decide_eq_false_iff_not] at this;exact this (he.trans W)
  by_cases S:j=list.findIdx fun q=>decide (s.eqv p q)
  ·subst S;exact rL I
  ·exact lt_asymm I ((List.pairwise_iff_getElem.1 Y) _ _ V hj (by omega))
theorem MP{s:aa}{o:List U}(S:o.Nodup)(h:o.Pairwise fun p q=>¬s.lt q p):o.Pairwise s.lt:=by
 refine(List.Pairwise.and S h).imp fun {a b} I=>?_
 by_cases hl:s.lt a b
 ·exact hl
 ·exact absurd (lt_eq hl I.2) I.1
theorem aa.cF.ME{s:aa}(h:s.ok=true){o:List U}(W:o.Nodup)(hA:dQ s o):∃ls,s.cF ls:=by
 have hp:=List.mergeSort_perm o fun p q=>!lexB (fH q (s.en q)) (fH p (s.en p))
 refine aa.cF.of h (hA.perm hp) (MP (hp.nodup_iff.2 W) ?_);refine(List.pairwise_mergeSort (le:=fun p q=>!lexB (fH q (s.en q)) (fH p (s.en p))) (fun a b c h1 S=>?_) (fun a b=>?_) o).imp fun {a b} I V=>?_
 ·simp only[Bool.not_eq_true'] at h1 S|-;exact wb h1 S
 ·cases I:lexB (fH b (s.en b)) (fH a (s.en a))
  ·simp
  ·simp[tE I]
 ·unfold aa.lt at V;rw[V] at I;cases I
structure eJ(s:aa)(list:List U)(P:List (List Int))(w i a:Nat):Prop where
 v:∀p∈P,∃x y i' a':Nat,p=[(x:Int),(y:Int)]/\x<list.length/\y<list.length/\s.gu (list.getD x U.zero) i' a' (list.getD y U.zero)
 c:∀(x i' a':Nat)(q:U),x<list.length->(x<w\/x=w/\(i'<i\/i'=i/\a'<a))->s.gu (list.getD x U.zero) i' a' q->∃y:Nat,y<list.length/\list.getD y U.zero=q/\[(x:Int),(y:Int)]∈P
theorem eJ.zero{s:aa}{list:List U}:eJ s list [] 0 0 0:=⟨fun p hp=>(by cases hp),fun x S I q _ h=>by omega⟩
theorem eJ.ok{s:aa}(h:s.ok=true){list:List U}(hA:dQ s list){P:List (List Int)}{w i a:Nat}(Y:eJ s list P w i a):nK s list P:=fun p hp=>by
 obtain⟨x,y,i',Z,h1,I,V,W⟩:=Y.v p hp;obtain⟨z,S⟩:=hA.at' I;have:=Hq h S W;exact⟨x,y,h1,I,V,this.1.symm,by rw[S,this.2]⟩
theorem eJ.skip{s:aa}{list:List U}{P:List (List Int)}{w i a:Nat}(h:eJ s list P w i a)(W:∀q,¬s.gu (list.getD w U.zero) i a q):eJ s list P w i (a+1) :=
 ⟨h.v,fun x V I q Y Z S=>by
  by_cases he:x=w/\V=i/\I=a
  ·obtain⟨rfl,rfl,rfl⟩:=he;exact absurd S (W q)
  ·exact h.c x V I q Y (by omega) S⟩
theorem eJ.zQ{s:aa}{list:List U}{P:List (List Int)}{w i a:Nat}(h:eJ s list P w i a)(hn:(list.getD w U.zero).ed.length<a+(s.lf.getD i U.zero).ed.length):eJ s list P w (i+1) 0 :=
 ⟨h.v,fun x V I q W Z S=>by
  by_cases he:x=w/\V=i/\a<=I
  ·obtain⟨rfl,rfl,Y⟩:=he
   have:=S.2.1;omega
  ·exact h.c x V I q W (by omega) S⟩
theorem eJ.zR{s:aa}{list:List U}{P:List (List Int)}{w i a:Nat}(h:eJ s list P w i a)(Z:s.lf.length<=i):eJ s list P (w+1) 0 0 :=
 ⟨h.v,fun x S V q W Y I=>by
  by_cases he:x=w/\i<=S
  ·have:=I.1;omega
  ·exact h.c x S V q W (by omega) I⟩
theorem eJ.add{s:aa}{list:List U}{P:List (List Int)}{w i a y:Nat}(h:eJ s list P w i a)(hw:w<list.length)(W:y<list.length)(V:s.gu (list.getD w U.zero) i a (list.getD y U.zero)):eJ s list (P++[[(w:Int),(y:Int)]]) w i (a+1):=by
 refine⟨fun p hp=>?_,fun x Y S q Z hc I=>?_⟩
 ·rcases List.mem_append.1 hp with hp | hp
  ·exact h.v p hp
  ·rw[List.mem_singleton] at hp;exact⟨w,y,i,a,hp,hw,W,V⟩
 ·by_cases he:x=w/\Y=i/\S=a
  ·obtain⟨rfl,rfl,rfl⟩:=he
   exact⟨y,W,by rw[V.2.2.2.2.2,I.2.2.2.2.2],by simp⟩
  ·obtain⟨z,z1,z2,z3⟩:=h.c x Y S q Z (by omega) I
   exact⟨z,z1,z2,List.mem_append_left _ z3⟩
structure jb(s:aa)(list:List U)(cl:List Int):Prop where
 len:cl.length=list.length
 ge:∀i,i<list.length->0<=cl.getD i 0/\cl.getD i 0<list.length
 eq:∀i j,i<list.length->j<list.length->(cl.getD i 0=cl.getD j 0↔s.eqv (list.getD i U.zero) (list.getD j U.zero))
theorem F4{s:aa}{φ:U->Int}(S:∀p i a q,s.sp p->s.gu p i a q->φ p=φ q){p q:U}(e:s.eqv p q):φ p=φ q:=by
 induction e with
 | refl=>rfl
 | lk hp I=>exact S _ _ _ _ hp I
 | symm _ V=>exact V.symm
 | trans _ _ i1 i2=>exact i1.trans i2
theorem PU{s:aa}{p q:U}(e:s.eqv p q):s.eqv p=s.eqv q:=funext fun _=>propext ⟨e.symm.trans,e.trans⟩
end Go.D3
namespace Go.D3
open Go
theorem oC{l:List U}(W:l.Nodup){j:Nat}(I:j<l.length):nn l (l.getD j U.zero).st (l.getD j U.zero).ed=j:=by
 obtain⟨k,h1,S,V⟩:=uk (l:=l) (x:=(l.getD j U.zero).st) (ed:=(l.getD j U.zero).ed) (dj I);have:l.getD k U.zero=l.getD j U.zero:=by rw[V]
 rw[h1,getD_inj W S I this]
theorem jb.Tx{s:aa}(h:s.ok=true){list:List U}(hA:dQ s list)(S:list.Nodup){P:List (List Int)}(W:eJ s list P list.length 0 0){cl:List Int}(Y:nI (bV (bk list.length) P) cl):jb s list cl:=by
 have hl:(bV (bk list.length) P).length=list.length:=by rw[pR,dq]
 have hc:=(W.ok h hA).cls Y;refine⟨hc.len,hc.ge,fun i j hi I=>⟨fun e=>?_,fun e=>?_⟩⟩
 ·have:=Y.same (fun i=>s.eqv (list.getD i U.zero)) (fun p hp=>by
   obtain⟨x,y,i',a',h1,h2,h3,h4⟩:=W.v p hp
   exact⟨x,y,h2,h3,by rw[h1];rfl,by rw[h1];rfl,PU (.lk (hA.at' h2) h4)⟩) hi I e
  exact(show s.eqv _=s.eqv _ from this)▸aa.eqv.refl (hA.at' I)
 ·have:=F4 (s:=s) (φ:=fun p=>cl.getD (nn list p.st p.ed).toNat 0) (fun p i a q hp Z=>by
   obtain⟨y,hy⟩:=hp;obtain⟨x,V,rfl⟩:=ff (d:=U.zero) (hA.a p y hy);obtain⟨z,z1,rfl,z2⟩:=W.c x i a q V (.inl V) Z;show cl.getD _ 0=cl.getD _ 0;rw[oC S V,oC S z1,Int.toNat_natCast,Int.toNat_natCast,Y.eq x z (by omega) (by omega)]
   exact vU z2 rfl rfl (by rw[dq];exact V) (by rw[dq];exact z1)) e
  simp only[oC S hi,oC S I,Int.toNat_natCast] at this;exact this
structure gf(s:aa)(list:List U)(cl:List Int)(i:Nat)(ls:List U):Prop where
 lt:∀j,j<i->cl.getD j 0<ls.length
 ex:∀k:Nat,k<ls.length->∃j,j<i/\j<list.length/\cl.getD j 0=k/\ls.getD k U.zero=list.getD j U.zero/\∀j',j'<j->cl.getD j' 0<k
theorem gf.zero{s:aa}{list:List U}{cl:List Int}:gf s list cl 0 []:=⟨fun _ I=>absurd I (Nat.not_lt_zero _),fun _ hk=>absurd hk (Nat.not_lt_zero _)⟩
theorem gf.old{s:aa}{list:List U}{cl:List Int}{i:Nat}{ls:List U}(S:∀(m:Nat),(∀q,q<i->cl.getD q 0<m)->cl.getD i 0<=m)(h:gf s list cl i ls)(W:cl.getD i 0≠ls.length):gf s list cl (i+1) ls:=by
 refine⟨fun j V=>?_,fun k hk=>?_⟩
 ·by_cases hji:j<i
  ·exact h.lt j hji
  ·rw[show j=i by omega]
   have:=S ls.length h.lt;omega
 ·obtain⟨j,h1,I⟩:=h.ex k hk
  exact⟨j,by omega,I⟩
theorem gf.new{s:aa}{list:List U}{cl:List Int}{i:Nat}{ls:List U}(h:gf s list cl i ls)(hi:i<list.length)(he:cl.getD i 0=ls.length):gf s list cl (i+1) (ls++[list.getD i U.zero]):=by
 have V:∀{k},k<ls.length->(ls++[list.getD i U.zero]).getD k U.zero=ls.getD k U.zero:=fun hk=>by rw[ee (by omega),if_neg (by omega)]
 have I:(ls++[list.getD i U.zero]).getD ls.length U.zero=list.getD i U.zero:=by rw[ee (Nat.le_refl _),if_pos rfl]
 refine⟨fun j hj=>?_,fun k hk=>?_⟩
 ·rw[List.length_append,List.length_singleton]
  by_cases hji:j<i
  ·have:=h.lt j hji;omega
  ·rw[show j=i by omega];omega
 ·rw[List.length_append,List.length_singleton] at hk
  by_cases hkl:k<ls.length
  ·obtain⟨j,h1,W,Y,Z,h5⟩:=h.ex k hkl
   exact⟨j,by omega,W,Y,by rw[V hkl,Z],h5⟩
  ·obtain rfl:k=ls.length:=by omega
   exact⟨i,by omega,hi,he,I,fun j' S=>h.lt j' S⟩
theorem gf.done{s:aa}(Z:s.ok=true){list:List U}(hA:dQ s list)(hs:list.Pairwise s.lt){cl:List Int}(Y:jb s list cl){ls:List U}(h:gf s list cl list.length ls):s.cF ls:=by
 have hp:=List.pairwise_iff_getElem.1 hs;refine⟨fun p hp=>?_,?_,fun p W q he V=>?_,fun p W=>?_⟩
 ·obtain⟨k,hk,rfl⟩:=ff (d:=U.zero) hp
  obtain⟨j,_,h2,_,h4,_⟩:=h.ex k hk;rw[h4];exact hA.at' h2
 ·refine List.pairwise_iff_getElem.2 fun i j hi hj ab=>?_
  obtain⟨a,_,a2,a3,a4,a5⟩:=h.ex i hi;obtain⟨b,_,b2,b3,b4,b5⟩:=h.ex j hj;rw[<-aM (d:=U.zero) hi,<-aM (d:=U.zero) hj,a4,b4,aM a2,aM b2];refine hp a b a2 b2 ?_;by_cases hab:b<a
  ·have:=a5 b hab;omega
  ·by_cases I:a=b
   ·subst I;omega
   ·omega
 ·obtain⟨k,hk,rfl⟩:=ff (d:=U.zero) W
  obtain⟨a,_,a2,a3,a4,a5⟩:=h.ex k hk;obtain⟨y,hy⟩:=(jN Z he).2.2.2;obtain⟨b,S,rfl⟩:=ff (d:=U.zero) (hA.a q y hy);rw[a4] at he V;have e:=(Y.eq a b a2 S).2 he;by_cases hab:b<a
  ·have:=a5 b hab;omega
  ·by_cases I:a=b
   ·subst I;exact rL V
   ·refine lt_asymm V ?_
    rw[aM a2,aM S];exact hp a b a2 S (by omega)
 ·obtain⟨y,hy⟩:=W
  obtain⟨b,S,rfl⟩:=ff (d:=U.zero) (hA.a p y hy);have h1:=h.lt b S;have h2:=(Y.ge b S).1;obtain⟨a,_,a2,a3,a4,_⟩:=h.ex (cl.getD b 0).toNat (by omega);refine⟨_,dj (i:=(cl.getD b 0).toNat) (d:=U.zero) (by omega),?_⟩;rw[a4];exact(Y.eq b a S a2).1 (by omega)
theorem gf.iD{s:aa}(V:s.ok=true){list:List U}(hA:dQ s list)(hs:list.Pairwise s.lt){cl:List Int}(hc:jb s list cl){i:Nat}{ls:List U}(h:gf s list cl i ls)(hi:i<list.length)(he:cl.getD i 0=ls.length)(h6:¬(list.getD i U.zero).ed.length<6):s.gK none:=by
 obtain⟨m,hm⟩:=aa.cF.of V hA hs;refine .jY m hm fun ha=>?_
 obtain⟨q,Z,I⟩:=hm.ex _ (hA.at' hi);refine h6 ?_;have hp:=List.pairwise_iff_getElem.1 hs
 have:list.getD i U.zero=q:=by
  refine lt_eq (hm.min q Z _ I.symm) fun S=>?_
  obtain⟨y,hy⟩:=(jN V I).2.2.2;obtain⟨b,W,rfl⟩:=ff (d:=U.zero) (hA.a q y hy);have e:=(hc.eq i b hi W).2 I;by_cases hb2:b<i
  ·have:=h.lt b hb2;omega
  ·by_cases Y:i=b
   ·subst Y;exact rL S
   ·refine lt_asymm S ?_
    rw[aM hi,aM W];exact hp i b hi W (by omega)
 rw[this];exact ha.1 q Z
theorem gf.no{s:aa}(I:s.ok=true){list:List U}(hA:dQ s list)(hs:list.Pairwise s.lt){cl:List Int}(V:jb s list cl){ls:List U}(h:gf s list cl list.length ls){x:Int}{ed:List Int}{y:Int}(Y:s.aO ⟨x,ed⟩=some y) :
  ∃j k:Nat,nn list x ed=j/\j<cl.length/\cl.getD j 0=k/\k<ls.length/\s.no ls ⟨x,ed⟩=k/\(ls.getD k U.zero).st=x/\s.aO (ls.getD k U.zero)=some y:=by
 obtain⟨j,h1,S,Z⟩:=uk (hA.a _ _ Y);have h4:=(V.ge j S).1;have h5:=h.lt j S;obtain⟨k,hk⟩:∃k:Nat,cl.getD j 0=k:=⟨(cl.getD j 0).toNat,by omega⟩;obtain⟨a,_,a2,a3,a4,_⟩:=h.ex k (by omega);have he:=(V.eq j a S a2).1 (by omega);rw[Z] at he;rw[<-a4] at he;have W:=jN I he;exact⟨j,k,h1,by rw[V.len];exact S,hk,by omega,(h.done I hA hs V).wu (by omega) he,W.1.symm,by rw[<-W.2.1,Y]⟩
theorem Sw{s:aa}{p q r:U}(h1:¬s.lt q p)(I:¬s.lt r q):¬s.lt r p:=fun h=>by
 unfold aa.lt at h h1 I;rw[Bool.not_eq_true] at h1 I;rw[wb h1 I] at h;cases h
theorem MT{o:List U}{k:Nat}(V : 0<k)(hk:k<o.length)(q:Nat):(o9 o k).getD q U.zero=if q=k-1 then o.getD k U.zero else if q=k then o.getD (k-1) U.zero else o.getD q U.zero:=by
 unfold o9;have gs:∀{L:List U}{j:Nat}{x:U},j<L.length->(L.set j x).getD j U.zero=x:=fun h=>by rw[List.getD_eq_getElem?_getD,List.getElem?_set_self h];rfl
 have S:∀{L:List U}{j q:Nat}{x:U},q≠j->(L.set j x).getD q U.zero=L.getD q U.zero:=fun h=>by rw[List.getD_eq_getElem?_getD,List.getElem?_set_ne (Ne.symm h),List.getD_eq_getElem?_getD]
 by_cases h1:q=k-1
 ·subst h1;rw[if_pos rfl,gs (by rw[List.length_set];omega)]
 ·rw[if_neg h1,S h1]
  by_cases I:q=k
  ·subst I;rw[if_pos rfl,gs hk]
  ·rw[if_neg I,S I]
theorem aaO{s:aa}{o:List U}{k i:Nat}(I : 0<k)(hk:k<o.length)(V:s.lt (o.getD k U.zero) (o.getD (k-1) U.zero))
  (S:∀(p q:Nat),p<q->q<=i->q≠k->¬s.lt (o.getD q U.zero) (o.getD p U.zero)) (p q:Nat) (W:p<q) (Y:q<=i) (Z:q≠k-1):¬s.lt ((o9 o k).getD q U.zero) ((o9 o k).getD p U.zero):=by
 rw[MT I hk,MT I hk,if_neg Z];by_cases h1:q=k
 ·rw[if_pos h1]
  by_cases h2:p=k-1
  ·rw[if_pos h2];exact lt_asymm V
  ·rw[if_neg h2,if_neg (by omega)];exact S p (k-1) (by omega) (by omega) (by omega)
 ·rw[if_neg h1]
  by_cases h2:p=k-1
  ·rw[if_pos h2];exact S k q (by omega) Y h1
  ·rw[if_neg h2]
   by_cases h3:p=k
   ·rw[if_pos h3];exact S (k-1) q (by omega) Y h1
   ·rw[if_neg h3];exact S p q W Y h1
end Go.D3
namespace Go.D3
open Go
structure UF(j:List Int):Prop where
 le:∀i,i<j.length->0<=j.getD i 0/\j.getD i 0<=i
inductive jd(j:List Int):Nat->Nat->Prop
 | root {x:Nat}:j.getD x 0=x->jd j x x
 | step {x y r:Nat}:j.getD x 0=y->y<x->jd j y r->jd j x r
theorem jd.fn{j:List Int}{x r t:Nat}(h:jd j x r)(g:jd j x t):r=t:=by
 induction h with
 | root e=>cases g with
  | root=>rfl
  | step I S=>omega
 | step e S _ W=>cases g with
  | root I=>omega
  | step I V g=>exact W (by rw[show _=_ from Int.ofNat.inj (e.symm.trans I)];exact g)
theorem jd.is{j:List Int}{x r:Nat}(h:jd j x r):j.getD r 0=r/\r<=x:=by
 induction h with
 | root e=>exact⟨e,Nat.le_refl _⟩
 | step _ S _ I=>exact⟨I.1,by omega⟩
theorem UF.get{j:List Int}(h:UF j){x:Nat}(I:x<j.length):∃y:Nat,j.getD x 0=y/\y<=x:=by
 have:=h.le x I;exact⟨(j.getD x 0).toNat,by omega,by omega⟩
theorem UF.ex{j:List Int}(h:UF j):∀(n x:Nat),x<=n->x<j.length->∃r,jd j x r
 | 0,x,S,hx=>by
  obtain⟨y,h1,I⟩:=h.get hx;exact⟨x,.root (by rw[h1];omega)⟩
 | n+1,x,S,hx=>by
  obtain⟨y,h1,I⟩:=h.get hx;by_cases hy:y=x
  ·exact⟨x,.root (by rw[h1,hy])⟩
  ·obtain⟨r,V⟩:=UF.ex h n y (by omega) (by omega)
   exact⟨r,.step h1 (by omega) V⟩
open Classical in
noncomputable def rep(j:List Int)(x:Nat):Nat:=if h:∃r,jd j x r then Classical.choose h else x
theorem UF.rp{j:List Int}(h:UF j){x:Nat}(S:x<j.length):jd j x (rep j x):=by
 have I:=h.ex x x (Nat.le_refl _) S;unfold rep;rw[dif_pos I];exact Classical.choose_spec I
theorem Jk{j:List Int}{x r:Nat}(h:jd j x r):rep j x=r:=by
 have I:∃r,jd j x r:=⟨r,h⟩;unfold rep;rw[dif_pos I];exact(Classical.choose_spec I).fn h
theorem UF.oJ{j:List Int}(h:UF j){x:Nat}(I:x<j.length):rep j x<=x/\j.getD (rep j x) 0=rep j x:=⟨(h.rp I).is.2,(h.rp I).is.1⟩
theorem UF.root{j:List Int}(_:UF j){x:Nat}(_:x<j.length)(e:j.getD x 0=x):rep j x=x:=Jk (.root e)
theorem UF.step{j:List Int}(h:UF j){x y:Nat}(I:x<j.length)(e:j.getD x 0=y):rep j x=rep j y:=by
 obtain⟨z,h1,S⟩:=h.get I;obtain rfl:y=z:=by omega
 by_cases hy:y=x
 ·rw[hy]
 ·exact Jk (.step e (by omega) (h.rp (by omega)))
theorem ln{l:List Int}{i k:Nat}{v:Int}(hi:i<l.length):(l.set i v).getD k 0=if k=i then v else l.getD k 0:=by
 by_cases h:k=i
 ·subst h;rw[if_pos rfl,List.getD_eq_getElem?_getD,List.getElem?_set_self hi];rfl
 ·rw[if_neg h,List.getD_eq_getElem?_getD,List.getElem?_set_ne (Ne.symm h),List.getD_eq_getElem?_getD]
theorem UF.GG{j:List Int}(h:UF j){x y z:Nat}(Z:x<j.length)(e1:j.getD x 0=y)(hy:y<x)(e2:j.getD y 0=z):UF (j.set x (z:Int))/\∀u,u<j.length->rep (j.set x (z:Int)) u=rep j u:=by
 have hz:=h.le y (by omega)
 have W:UF (j.set x (z:Int)):=⟨fun i hi=>by
  rw[List.length_set] at hi;rw[ln Z];have:=h.le i hi;split
  ·omega
  ·exact this⟩
 refine⟨W,?_⟩
 have key:∀n u,u<=n->u<j.length->rep (j.set x (z:Int)) u=rep j u:=by
  intro n;induction n with
  | zero =>
   intro u hu I;have:=W.oJ (x:=u) (by rw[List.length_set];exact I);have:=h.oJ I;omega
  | succ n ih =>
   intro u hu I;have S:u<(j.set x (z:Int)).length:=by rw[List.length_set];exact I
   by_cases V:u=x
   ·subst V
    have a:=W.step S (show(j.set u (z:Int)).getD u 0=(z:Int) by rw[ln I,if_pos rfl]);have b:=h.step I e1;have c:=h.step (show y<j.length by omega) e2;rw[a,ih z (by omega) (by omega),b,c]
   ·obtain⟨w,Y,w2⟩:=h.get I
    by_cases hwu:w=u
    ·rw[W.root S (by rw[ln Z,if_neg V,Y,hwu]),h.root I (by rw[Y,hwu])]
    ·rw[W.step S (show(j.set x (z:Int)).getD u 0=(w:Int) by rw[ln Z,if_neg V,Y]),h.step I Y,ih w (by omega) (by omega)]
 exact fun u hu=>key u u (Nat.le_refl _) hu
theorem UF.link{j:List Int}(h:UF j){a b:Nat}(Y:a<j.length)(hb:b<=a)(ea:j.getD a 0=a)(eb:j.getD b 0=b):UF (j.set a (b:Int))/\∀u,u<j.length->rep (j.set a (b:Int)) u=if rep j u=a then b else rep j u:=by
 have W:UF (j.set a (b:Int)):=⟨fun i hi=>by
  rw[List.length_set] at hi;rw[ln Y];have:=h.le i hi;split
  ·omega
  ·exact this⟩
 refine⟨W,?_⟩
 have ab:rep (j.set a (b:Int)) b=b:=W.root (by rw[List.length_set];omega) (by
  rw[ln Y];split
  ·rfl
  ·exact eb)
 have key:∀n u,u<=n->u<j.length->rep (j.set a (b:Int)) u=if rep j u=a then b else rep j u:=by
  intro n;induction n with
  | zero =>
   intro u hu I;have:=W.oJ (x:=u) (by rw[List.length_set];exact I);have:=h.oJ I;split<;>omega
  | succ n ih =>
   intro u hu I;have V:u<(j.set a (b:Int)).length:=by rw[List.length_set];exact I
   by_cases S:u=a
   ·subst S
    rw[W.step V (show(j.set u (b:Int)).getD u 0=(b:Int) by rw[ln I,if_pos rfl]),ab,h.root I ea,if_pos rfl]
   ·obtain⟨w,Z,w2⟩:=h.get I
    by_cases hwu:w=u
    ·rw[W.root V (by rw[ln Y,if_neg S,Z,hwu]),h.root I (by rw[Z,hwu]),if_neg S]
    ·rw[W.step V (show(j.set a (b:Int)).getD u 0=(w:Int) by rw[ln Y,if_neg S,Z]),h.step I Z,ih w (by omega) (by omega)]
 exact fun u hu=>key u u (Nat.le_refl _) hu
theorem UF.join{j:List Int}(h:UF j){x y:Nat}(V:x<j.length)(W:y<j.length):UF (j.set (max (rep j x) (rep j y)) ((min (rep j x) (rep j y):Nat):Int)) /\
  ∀u,u<j.length->rep (j.set (max (rep j x) (rep j y)) ((min (rep j x) (rep j y):Nat):Int)) u=if rep j u=max (rep j x) (rep j y) then min (rep j x) (rep j y) else rep j u:=by
 have h1:=h.oJ V;have S:=h.oJ W;refine h.link (by omega) (by omega) ?_ ?_
 ·rcases Nat.le_total (rep j x) (rep j y) with I | I
  ·rw[Nat.max_eq_right I];exact S.2
  ·rw[Nat.max_eq_left I];exact h1.2
 ·rcases Nat.le_total (rep j x) (rep j y) with I | I
  ·rw[Nat.min_eq_left I];exact h1.2
  ·rw[Nat.min_eq_right I];exact S.2
theorem UF.H0{n:Nat}:UF (bk n)/\∀u,u<n->rep (bk n) u=u:=by
 have hg:∀{i},i<n->(bk n).getD i 0=i:=fun hi=>by
  unfold bk;rw[List.getD_eq_getElem?_getD,List.getElem?_map,List.getElem?_range hi];rfl
 have I:UF (bk n):=⟨fun i hi=>by rw[dq] at hi;rw[hg hi];omega⟩;exact⟨I,fun u hu=>I.root (by rw[dq];exact hu) (hg hu)⟩
def eU:Nat->List Int->Nat->Nat×List Int
 | 0,J,x=>(x,J)
 | f+1,J,x=>if J.getD x 0=(x:Int) then(x,J) else eU f (J.set x (J.getD (J.getD x 0).toNat 0)) (J.getD (J.getD x 0).toNat 0).toNat
theorem qx:∀(f:Nat){J:List Int}{x:Nat},UF J->x<J.length->x<f->(eU f J x).1=rep J x/\UF (eU f J x).2/\(eU f J x).2.length=J.length/\∀u,u<J.length->rep (eU f J x).2 u=rep J u
 | 0,_,_,_,_,h=>absurd h (Nat.not_lt_zero _)
 | f+1,J,x,I,S,hf=>by
  unfold eU;by_cases e:J.getD x 0=(x:Int)
  ·rw[if_pos e]
   exact⟨(I.root S e).symm,I,rfl,fun _ _=>rfl⟩
  ·rw[if_neg e]
   obtain⟨y,V,hy⟩:=I.get S;have Y:y<x:=by omega
   obtain⟨z,W,hz⟩:=I.get (show y<J.length by omega);rw[V,Int.toNat_natCast,W,Int.toNat_natCast];obtain⟨h1,Z⟩:=I.GG S V Y W;have hl:(J.set x (z:Int)).length=J.length:=List.length_set;obtain⟨i1,i2,i3,i4⟩:=qx f h1 (show z<(J.set x (z:Int)).length by omega) (by omega);refine⟨?_,i2,i3.trans hl,fun u hu=>(i4 u (by omega)).trans (Z u hu)⟩;rw[i1,Z z (by omega),I.step S V,I.step (by omega) W]
theorem Zo{f:Nat}{J:List Int}{x:Nat}(e:¬J.getD x 0=(x:Int)):eU (f+1) J x=eU f (J.set x (J.getD (J.getD x 0).toNat 0)) (J.getD (J.getD x 0).toNat 0).toNat:=by
 rw[eU,if_neg e]
structure dx(s:aa)(list:List U)(j:List Int)(w i a:Nat):Prop where
 uf:UF j
 len:j.length=list.length
 v:∀x,x<list.length->s.eqv (list.getD x U.zero) (list.getD (rep j x) U.zero)
 c:∀(x i' a':Nat)(q:U),x<list.length->(x<w\/x=w/\(i'<i\/i'=i/\a'<a))->s.gu (list.getD x U.zero) i' a' q->∃y:Nat,y<list.length/\list.getD y U.zero=q/\rep j x=rep j y
theorem dx.zero{s:aa}{list:List U}(hA:dQ s list):dx s list (bk list.length) 0 0 0 :=
 ⟨UF.H0.1,dq,fun x I=>by rw[UF.H0.2 x I];exact .refl (hA.at' I),fun x V S q _ h=>by omega⟩
theorem dx.same{s:aa}{list:List U}{j k:List Int}{w i a:Nat}(h:dx s list j w i a)(Y:UF k)(V:k.length=j.length)(I:∀u,u<j.length->rep k u=rep j u):dx s list k w i a:=by
 have hlen:=h.len;refine⟨Y,by omega,fun x S=>by rw[I x (by omega)];exact h.v x S,fun x i' W q S Z V=>?_⟩;obtain⟨y,y1,y2,y3⟩:=h.c x i' W q S Z V;exact⟨y,y1,y2,by rw[I x (by omega),I y (by omega)];exact y3⟩
theorem dx.skip{s:aa}{list:List U}{P:List Int}{w i a:Nat}(h:dx s list P w i a)(W:∀q,¬s.gu (list.getD w U.zero) i a q):dx s list P w i (a+1) :=
 ⟨h.uf,h.len,h.v,fun x V I q Y Z S=>by
  by_cases he:x=w/\V=i/\I=a
  ·obtain⟨rfl,rfl,rfl⟩:=he;exact absurd S (W q)
  ·exact h.c x V I q Y (by omega) S⟩
theorem dx.zQ{s:aa}{list:List U}{P:List Int}{w i a:Nat}(h:dx s list P w i a)(hn:(list.getD w U.zero).ed.length<a):dx s list P w (i+1) 0 :=
 ⟨h.uf,h.len,h.v,fun x V I q W Z S=>by
  by_cases he:x=w/\V=i/\a<=I
  ·obtain⟨rfl,rfl,Y⟩:=he
   have:=S.2.1;omega
  ·exact h.c x V I q W (by omega) S⟩
theorem dx.zR{s:aa}{list:List U}{P:List Int}{w i a:Nat}(h:dx s list P w i a)(Z:s.lf.length<=i):dx s list P (w+1) 0 0 :=
 ⟨h.uf,h.len,h.v,fun x S V q W Y I=>by
  by_cases he:x=w/\i<=S
  ·have:=I.1;omega
  ·exact h.c x S V q W (by omega) I⟩
theorem dx.add{s:aa}{list:List U}{j k:List Int}{w i a y:Nat}(h:dx s list j w i a)(hw:w<list.length)(hy:y<list.length)(ab:s.sp (list.getD w U.zero))(hl:s.gu (list.getD w U.zero) i a (list.getD y U.zero))
  (hU:UF k) (ad:k.length=j.length) (W:∀u,u<j.length->rep k u=if rep j u=max (rep j w) (rep j y) then min (rep j w) (rep j y) else rep j u):dx s list k w i (a+1):=by
 have hlen:=h.len;have e:=aa.eqv.lk ab hl;have I:s.eqv (list.getD (rep j w) U.zero) (list.getD (rep j y) U.zero):=(h.v w hw).symm.trans (e.trans (h.v y hy));refine⟨hU,by omega,fun x Z=>?_,fun x i' a' q Z hc V=>?_⟩
 ·rw[W x (by omega)]
  split
  ·rename_i hm
   have Y:=h.v x Z;rw[hm] at Y;rcases Nat.le_total (rep j w) (rep j y) with S | S
   ·rw[Nat.max_eq_right S] at Y
    rw[Nat.min_eq_left S];exact Y.trans I.symm
   ·rw[Nat.max_eq_left S] at Y
    rw[Nat.min_eq_right S];exact Y.trans I
  ·exact h.v x Z
 ·by_cases he:x=w/\i'=i/\a'=a
  ·obtain⟨rfl,rfl,rfl⟩:=he
   refine⟨y,hy,by rw[hl.2.2.2.2.2,V.2.2.2.2.2],?_⟩;rw[W x (by omega),W y (by omega)];split<;>split<;>omega
  ·obtain⟨z,z1,z2,z3⟩:=h.c x i' a' q Z (by omega) V
   exact⟨z,z1,z2,by rw[W x (by omega),W z (by omega),z3]⟩
theorem dx.cls{s:aa}{list:List U}(hA:dQ s list)(I:list.Nodup){j:List Int}(S:dx s list j list.length 0 0){L:List Int}(hL:L.length=list.length)(Z:∀i,i<list.length->L.getD i 0=rep j i){cl:List Int}(W:nI L cl):jb s list cl:=by
 refine⟨by rw[W.len,hL],fun i hi=>by have:=W.ge i (by omega);omega,fun i k hi hk=>?_⟩;rw[W.eq i k (by omega) (by omega),Z i hi,Z k hk];constructor
 ·intro e
  have a:=S.v i hi;have b:=S.v k hk;rw[show rep j i=rep j k by omega] at a;exact a.trans b.symm
 ·intro e
  have:=F4 (s:=s) (φ:=fun p=>((rep j (nn list p.st p.ed).toNat:Nat):Int)) (fun p i a q hp V=>by
   obtain⟨y,hy⟩:=hp;obtain⟨x,Y,rfl⟩:=ff (d:=U.zero) (hA.a p y hy);obtain⟨z,z1,rfl,z2⟩:=S.c x i a q Y (.inl Y) V;show((rep j _:Nat):Int)=((rep j _:Nat):Int)
   rw[oC I Y,oC I z1,Int.toNat_natCast,Int.toNat_natCast,z2]) e
  simp only[oC I hi,oC I hk,Int.toNat_natCast] at this;exact this
end Go.D3
namespace Go.D3
open Go
def er(a b:List Int):Int:=if lexB a b=true then -1 else if a=b then 0 else 1
theorem yr{a b:List Int}:er a b<0↔lexB a b=true:=by
 unfold er;split
 ·rename_i h;simp[h]
 ·rename_i h;simp only[h];split<;>simp
theorem vp{a b:List Int}:er a b=0↔a=b:=by
 unfold er;split
 ·rename_i h
  refine⟨fun h=>by omega,fun e=>?_⟩;rw[e,Hm] at h;cases h
 ·split
  ·rename_i h;simp[h]
  ·rename_i h;simp[h]
def pz(p q:U):Int:=if(p.ed.length:Int)-q.ed.length≠0 then(p.ed.length:Int)-q.ed.length else er p.ed q.ed
theorem Pw{s:aa}{p q:U}(h:p.st=q.st)(e:s.aO p=s.aO q):pz p q<0↔s.lt p q:=by
 unfold aa.lt fH aa.en pz;rw[h,e];simp only[List.cons_append,List.nil_append,lexB,if_true];by_cases hl:(p.ed.length:Int)=q.ed.length
 ·rw[if_neg (by omega),if_pos hl,yr]
 ·rw[if_pos (by omega),if_neg hl,decide_eq_true_eq];omega
def py(s:aa)(p q:U):Int:=if er [p.st,s.en p] [q.st,s.en q]≠0 then er [p.st,s.en p] [q.st,s.en q] else pz p q
theorem vq{s:aa}{p q:U}:py s p q<0↔s.lt p q:=by
 unfold py;by_cases h:[p.st,s.en p]=[q.st,s.en q]
 ·rw[if_neg (by rw[Decidable.not_not];exact vp.2 h)]
  simp only[List.cons.injEq,and_true] at h;unfold aa.lt fH pz;rw[h.1,h.2];simp only[List.cons_append,List.nil_append,lexB,if_true];by_cases hl:(p.ed.length:Int)=q.ed.length
  ·rw[if_neg (by omega),if_pos hl,yr]
  ·rw[if_pos (by omega),if_neg hl,decide_eq_true_eq];omega
 ·rw[if_pos (by intro e;exact h (vp.1 e)),yr]
  unfold aa.lt fH;simp only[List.cons_append,List.nil_append,lexB];simp only[List.cons.injEq,and_true] at h;by_cases h1:p.st=q.st
  ·rw[if_pos h1,if_pos h1,if_neg (fun e=>h ⟨h1,e⟩),if_neg (fun e=>h ⟨h1,e⟩)]
  ·rw[if_neg h1,if_neg h1]
structure jc(s:aa)(list:List U)(cl:List Int)(nc i:Nat)(M:List (Option U)):Prop where
 len:M.length=nc
 no:∀c,c<nc->M.getD c none=none->∀k,i<=k->k<list.length->cl.getD k 0≠c
 yes:∀c p,c<nc->M.getD c none=some p->∃m,i<=m/\m<list.length/\cl.getD m 0=c/\p=list.getD m U.zero/\∀k,i<=k->k<list.length->cl.getD k 0=c->¬s.lt (list.getD k U.zero) p
theorem jc.zero{s:aa}{list:List U}{cl:List Int}{nc:Nat}:jc s list cl nc list.length (List.replicate nc none):=by
 refine⟨List.length_replicate,fun c _ _ k h1 I=>by omega,fun c p S h=>?_⟩;rw[List.getD_eq_getElem?_getD,List.getElem?_replicate] at h;split at h<;>cases h
theorem Mu{α:Type}{l:List (Option α)}{i k:Nat}{v:Option α}(hi:i<l.length):(l.set i v).getD k none=if k=i then v else l.getD k none:=by
 by_cases h:k=i
 ·subst h;rw[if_pos rfl,List.getD_eq_getElem?_getD,List.getElem?_set_self hi];rfl
 ·rw[if_neg h,List.getD_eq_getElem?_getD,List.getElem?_set_ne (Ne.symm h),List.getD_eq_getElem?_getD]
theorem jc.set{s:aa}{list:List U}{cl:List Int}{nc i c:Nat}{M:List (Option U)}(h:jc s list cl nc (i+1) M)(hi:i<list.length)(hc:cl.getD i 0=c)(ab:c<nc)(hp:∀p,M.getD c none=some p->s.lt (list.getD i U.zero) p):jc s list cl nc i (M.set c (some (list.getD i U.zero))):=by
 have hl:=h.len;refine⟨by rw[List.length_set];exact hl,fun d S h1 k Z I=>?_,fun d p S h1=>?_⟩
 ·rw[Mu (by omega)] at h1
  split at h1
  ·cases h1
  ·by_cases hk:k=i
   ·subst hk;omega
   ·exact h.no d S h1 k (by omega) I
 ·rw[Mu (by omega)] at h1
  split at h1
  ·rename_i e
   subst e;injection h1 with h1
   subst h1;refine⟨i,Nat.le_refl _,hi,hc,rfl,fun k Z I V=>?_⟩;by_cases hk:k=i
   ·subst hk;exact rL
   ·cases hM:M.getD d none with
    | none=>exact absurd V (h.no d S hM k (by omega) I)
    | some q =>
     obtain⟨_,_,_,_,_,W⟩:=h.yes d q S hM;exact fun Y=>W k (by omega) I V (lt_trans Y (hp q hM))
  ·obtain⟨m,h5,h6,h7,h8,W⟩:=h.yes d p S h1
   exact⟨m,by omega,h6,h7,h8,fun k Z I V=>W k (by
    by_cases hk:k=i
    ·subst hk;omega
    ·omega) I V⟩
theorem jc.bZ{s:aa}{list:List U}{cl:List Int}{nc i c:Nat}{M:List (Option U)}(h:jc s list cl nc (i+1) M)(hc:cl.getD i 0=c)(ab:c<nc){q:U}(V:M.getD c none=some q)(hp:¬s.lt (list.getD i U.zero) q):jc s list cl nc i M:=by
 refine⟨h.len,fun d S h1 k W I=>?_,fun d p S h1=>?_⟩
 ·by_cases hk:k=i
  ·subst hk
   intro e;have:d=c:=by omega
   subst this;rw[V] at h1;cases h1
  ·exact h.no d S h1 k (by omega) I
 ·obtain⟨m,h5,Z,h7,h8,h9⟩:=h.yes d p S h1
  refine⟨m,by omega,Z,h7,h8,fun k W I Y=>?_⟩;by_cases hk:k=i
  ·subst hk
   have:d=c:=by omega
   subst this;rw[V] at h1;injection h1 with h1
   subst h1;exact hp
  ·exact h9 k (by omega) I Y
structure jB(s:aa)(list:List U)(cl:List Int)(nc:Nat)(K:List U):Prop where
 len:K.length=nc
 lt:∀i,i<list.length->0<=cl.getD i 0/\cl.getD i 0<nc
 ex:∀c,c<nc->∃m,m<list.length/\cl.getD m 0=c/\K.getD c U.zero=list.getD m U.zero
 min:∀k c,k<list.length->c<nc->cl.getD k 0=c->¬s.lt (list.getD k U.zero) (K.getD c U.zero)
theorem jc.done{s:aa}{list:List U}{cl:List Int}{nc:Nat}{M:List (Option U)}(h:jc s list cl nc 0 M)(V:∀i,i<list.length->0<=cl.getD i 0/\cl.getD i 0<nc)(hex:∀c,c<nc->∃m,m<list.length/\cl.getD m 0=c):∃K,M=K.map some/\jB s list cl nc K:=by
 have W:∀c,c<nc->∃p,M.getD c none=some p:=fun c I=>by
  cases hM:M.getD c none with
  | none =>
   obtain⟨m,h1,S⟩:=hex c I;exact absurd S (h.no c I hM m (Nat.zero_le _) h1)
  | some p=>exact⟨p,rfl⟩
 have hl:=h.len
 have hk:∀c,c<nc->(M.map fun o=>o.getD U.zero).getD c U.zero=(M.getD c none).getD U.zero:=fun c I=>by
  rw[aM (by rw[List.length_map];omega),List.getElem_map,aM (by omega)]
 refine⟨M.map fun o=>o.getD U.zero,?_,by rw[List.length_map,hl],V,fun c I=>?_,fun k c h1 S Y=>?_⟩
 ·refine List.ext_getElem (by simp) fun c h1 S=>?_
  obtain⟨p,hp⟩:=W c (by omega);rw[aM h1] at hp;simp[hp]
 ·obtain⟨p,hp⟩:=W c I
  obtain⟨m,_,Z,h7,h8,_⟩:=h.yes c p I hp;exact⟨m,Z,h7,by rw[hk c I,hp];exact h8⟩
 ·obtain⟨p,hp⟩:=W c S
  obtain⟨_,_,_,_,_,h9⟩:=h.yes c p S hp;rw[hk c S,hp];exact h9 k (Nat.zero_le _) h1 Y
theorem jB.get{s:aa}{list:List U}{cl:List Int}(S:jb s list cl){nc:Nat}{K:List U}(h:jB s list cl nc K){i:Nat}(hi:i<list.length) :
  ∃c:Nat,cl.getD i 0=c/\c<nc/\s.eqv (list.getD i U.zero) (K.getD c U.zero):=by
 have:=h.lt i hi;obtain⟨m,h1,V,I⟩:=h.ex (cl.getD i 0).toNat (by omega);refine⟨(cl.getD i 0).toNat,by omega,by omega,?_⟩;rw[I];exact(S.eq i m hi h1).1 (by omega)
theorem jB.ae{s:aa}(ax:s.ok=true){list:List U}(hA:dQ s list){cl:List Int}(hc:jb s list cl){nc:Nat}{K:List U}(h:jB s list cl nc K){O:List Int}(hO:O.Perm (bk nc))(hs:O.Pairwise fun a b=>¬s.lt (K.getD b.toNat U.zero) (K.getD a.toNat U.zero)) :
  s.cF (O.map fun c=>K.getD c.toNat U.zero):=by
 have V:∀c∈O,∃d:Nat,c=d/\d<nc:=fun c I=>by
  have:=hO.mem_iff.1 I;unfold bk at this;obtain⟨d,S,rfl⟩:=List.mem_map.1 this;exact⟨d,rfl,List.mem_range.1 S⟩
 have Y:∀d:Nat,d<nc->(d:Int)∈O:=fun d S=>hO.mem_iff.2 (List.mem_map.2 ⟨d,List.mem_range.2 S,rfl⟩)
 have ag:∀c d:Nat,c<nc->d<nc->s.eqv (K.getD c U.zero) (K.getD d U.zero)->c=d:=fun c d h1 h2 e=>by
  obtain⟨m,W,a2,a3⟩:=h.ex c h1;obtain⟨n,b1,b2,b3⟩:=h.ex d h2;rw[a3,b3] at e;have:=(hc.eq m n W b1).2 e;omega
 have ab:∀c:Nat,c<nc->s.sp (K.getD c U.zero):=fun c h1=>by
  obtain⟨m,W,_,a3⟩:=h.ex c h1;rw[a3];exact hA.at' W
 have ao:O.Nodup:=hO.nodup_iff.2 (by
  unfold bk;rw[List.nodup_iff_pairwise_ne,List.pairwise_map]
  exact List.pairwise_lt_range.imp fun {a b} h e=>by omega)
 refine⟨fun p hp=>?_,?_,fun p hp q he Z=>?_,fun p hp=>?_⟩
 ·obtain⟨c,I,rfl⟩:=List.mem_map.1 hp
  obtain⟨d,rfl,S⟩:=V c I;exact ab d S
 ·rw[List.pairwise_map]
  refine List.Pairwise.imp_of_mem ?_ (List.Pairwise.and ao hs);intro a b ha hb hh;obtain⟨c,rfl,ad⟩:=V a ha;obtain⟨d,rfl,S⟩:=V b hb;by_cases hl:s.lt (K.getD (c:Int).toNat U.zero) (K.getD (d:Int).toNat U.zero)
  ·exact hl
  ·have:=lt_eq hl hh.2
   simp only[Int.toNat_natCast] at this;have:=ag c d ad S (by rw[this];exact .refl (ab d S));exact absurd (by omega) hh.1
 ·obtain⟨c,I,rfl⟩:=List.mem_map.1 hp
  obtain⟨d,rfl,S⟩:=V c I;simp only[Int.toNat_natCast] at he Z;obtain⟨y,hy⟩:=(jN ax he).2.2.2;obtain⟨k,hk,rfl⟩:=ff (d:=U.zero) (hA.a q y hy);obtain⟨m,W,a2,a3⟩:=h.ex d S;rw[a3] at he;have e:=(hc.eq m k W hk).2 he;exact h.min k d hk S (by omega) Z
 ·obtain⟨y,hy⟩:=hp
  obtain⟨k,hk,rfl⟩:=ff (d:=U.zero) (hA.a p y hy);obtain⟨c,_,h2,h3⟩:=h.get hc hk;exact⟨_,List.mem_map.2 ⟨(c:Int),Y c h2,rfl⟩,by simpa using h3⟩
theorem jB.no{s:aa}(_:s.ok=true){list:List U}(_:dQ s list){cl:List Int}(hc:jb s list cl){nc:Nat}{K:List U}(h:jB s list cl nc K){O:List Int}(hL:s.cF (O.map fun c=>K.getD c.toNat U.zero)){B:List Int}(hB:∀x,x<O.length->B.getD (O.getD x 0).toNat 0=x)(S:∀d:Nat,d<nc->(d:Int)∈O)
  {k:Nat} (hk:k<list.length):∃c:Nat,cl.getD k 0=c/\c<nc/\∃x:Nat,B.getD c 0=x/\x<O.length/\O.getD x 0=c/\s.no (O.map fun c=>K.getD c.toNat U.zero) (list.getD k U.zero)=x:=by
 obtain⟨c,h1,W,Z⟩:=h.get hc hk;obtain⟨x,V,I⟩:=ff (d:=(0:Int)) (S c W);have Y:=hB x V;rw[I,Int.toNat_natCast] at Y;refine⟨c,h1,W,x,Y,V,I,hL.wu (by rw[List.length_map];exact V) ?_⟩
 have:(O.map fun c=>K.getD c.toNat U.zero).getD x U.zero=K.getD c U.zero:=by
  rw[aM (by rw[List.length_map];exact V),List.getElem_map,<-aM (d:=0) V,I,Int.toNat_natCast]
 rw[this];exact Z
end Go.D3
