/- PLAIN LAWS: how many classes there are; a class without a path that can become longer. -/
import Derived.Test.YtaknpcdnmecblaaGreatDoorGAD
import Derived.Test.YtaknpcdnmecblaaGreatDoorGAE
import Derived.Test.YtaknpcdnmecblaaGreatDoorGAA
import Derived.Test.YtaknpcdnmecblaaGreatDoorGAB
namespace Go.D3
open Go Proofs
set_option maxHeartbeats 4000000
set_option maxRecDepth 100000
theorem Pt{a b:List Int}{i:Nat}(I:i<a.length)(S:i<b.length)(h:a.getD i 0=b.getD i 0)(V:er a b=er (a.drop i) (b.drop i)):er a b=er (a.drop (i+1)) (b.drop (i+1)):=by
 rw[V];rw[aM I,aM S] at h;unfold er;rw[List.drop_eq_getElem_cons I,List.drop_eq_getElem_cons S];simp only[lexB,h,if_true,List.cons.injEq,true_and]
theorem Fv{x y:Int}{a b:List Int}(h:x≠y):er (x::a) (y::b)=if x<y then -1 else 1:=by
 unfold er;simp only[lexB,decide_eq_true_eq,List.cons.injEq,h,false_and,if_false]
theorem Ps{x:Int}{a:List Int}:er (x::a) []=1:=by simp[er,lexB]
theorem Pu{x:Int}{a:List Int}:er [] (x::a)=-1:=by simp[er,lexB]
def Cv:List Nat:=[0,1,4,5,7,8]
def Kx:Sl:=ah Tryz.types Tryz.f184 Cv []
theorem Ub:aE Tryz.prog Tryz.f184 Cv Kx 2=true:=by decide +kernel
theorem A2[Mode](a b:List Int)(hl:a.length<=1048576)(_:b.length<=1048576):aA Tryz.prog 184 [.v (ints a),.v (ints b)] (.int .i64 (er a b)):=by
 refine aQ Tryz.func184 Ub ?_;unfold Kx ah Cv;simp only[go_sem];refine au [3] (fun i:Nat=>[(5,.int .i64 i)]) (fun i=>i<=a.length/\i<=b.length/\er a b=er (a.drop i) (b.drop i)) (fun i=>a.length-i) 0 (by simp only[go_sem];rfl) ⟨Nat.zero_le _,Nat.zero_le _,rfl⟩ rfl ?_;rintro i ⟨hi,Z,V⟩;simp only[go_sem];refine⟨fun h1=>⟨fun Y=>?_,fun Y=>?_⟩,fun h1=>?_⟩
 ·have e:i=b.length:=by omega
  rw[V,List.drop_of_length_le (show b.length<=i by omega),List.drop_eq_getElem_cons h1,Ps]
 ·rw[beq_eq_false_iff_ne] at Y
  have I:i<b.length:=by omega
  refine⟨h1,I,fun S=>⟨h1,I,fun W=>?_,fun W=>?_⟩,fun S=>?_⟩
  all_goals(try rw[bne_iff_ne] at S)
  ·rw[aM h1,aM I] at S W
   rw[V,List.drop_eq_getElem_cons h1,List.drop_eq_getElem_cons I,Fv S,if_pos W]
  ·rw[aM h1,aM I] at S W
   rw[V,List.drop_eq_getElem_cons h1,List.drop_eq_getElem_cons I,Fv S,if_neg W]
  ·rw[bne_eq_false_iff_eq] at S
   exact⟨i+1,⟨h1,I,Pt h1 I S V⟩,by omega,by rw[aw h1 (by simp only[maxLen];omega)]⟩
 ·have e:i=a.length:=by omega
  refine⟨fun Y=>?_,fun Y=>?_⟩
  ·rw[V,List.drop_of_length_le (show a.length<=i by omega),List.drop_eq_getElem_cons (show i<b.length by omega),Pu]
  ·rw[V,List.drop_of_length_le (show a.length<=i by omega),List.drop_of_length_le (show b.length<=i by omega)]
   simp[er,lexB]
def CR:List Nat:=[0,1,4]
def KU:Sl:=ah Tryz.types Tryz.f114 CR []
theorem Ux:aE Tryz.prog Tryz.f114 CR KU 2=true:=by decide +kernel
theorem uy(a b:List Int)(I:a.length<=1048576)(hm:b.length<=1048576):aA Tryz.prog 114 [.v (ints a),.v (ints b)] (.bool (a == b)):=by
 refine aQ Tryz.func114 Ux ?_;unfold KU ah CR;simp only[go_sem];refine aj (A2 a b I hm) rfl (.inl rfl) ?_;simp only[go_sem];by_cases h:a=b
 ·rw[vp.2 h];simp[h]
 ·rw[show(er a b == 0)=false from beq_eq_false_iff_ne.2 fun e=>h (vp.1 e),show(a == b)=false from beq_eq_false_iff_ne.2 h]
def Cw:List Nat:=[0,1,4,2,3,5]
def Ky:Sl:=ah Tryz.types Tryz.f229 Cw []
theorem Uc:aE Tryz.prog Tryz.f229 Cw Ky 2=true:=by decide +kernel
theorem Jv[Mode](p q:U)(I:p.ed.length<=1048576)(hm:q.ed.length<=1048576):aA Tryz.prog 229 [.v (U.d p),.v (U.d q)] (.int .i64 (pz p q)):=by
 refine aQ Tryz.func229 Uc ?_;unfold Ky ah Cw;simp only[go_sem];rw[wrap_small (by omega) (by omega)];refine⟨fun h=>?_,fun h=>?_⟩
 ·unfold pz
  rw[if_pos (by rw[bne_iff_ne] at h;exact h)]
 ·unfold pz
  rw[if_neg (by rw[bne_eq_false_iff_eq] at h;omega)];refine aj (A2 p.ed q.ed I hm) rfl (.inl rfl) ?_;simp only[go_sem]
def CL:List Nat:=[0,1,4]
def KO:Sl:=ah Tryz.types Tryz.f222 CL []
theorem Ur:aE Tryz.prog Tryz.f222 CL KO 2=true:=by decide +kernel
theorem A5(x:Int)(ed:List Int)(S:oU (x::ed))(V:ed.length<=64):aA Tryz.prog 222 [.v (.int .i64 x),.v (ints ed)] (.str (kV ⟨x,ed⟩)):=by
 have h1:∀l∈[[x],ed],oU l/\l.length<=64:=fun l hm=>by
  simp only[List.mem_cons,List.not_mem_nil,or_false] at hm;rcases hm with rfl | rfl
  ·exact⟨fun y I=>S y (by simp only[List.mem_singleton] at I;rw[I];exact List.mem_cons_self),Nat.le_of_ble_eq_true rfl⟩
  ·exact⟨fun y I=>S y (List.mem_cons_of_mem _ I),V⟩
 refine aQ Tryz.func222 Ur ?_;unfold KO ah CL;simp only[go_sem];refine aj (Ys [[x],ed] h1 (Nat.le_of_ble_eq_true rfl)) rfl (.inl rfl) ?_;simp only[go_sem];rfl
end Go.D3
namespace Go.D3
open Go Proofs
set_option maxHeartbeats 4000000
set_option maxRecDepth 100000
theorem Ts{n i:Nat}(h:i<n):(bk n).getD i 0=i:=by
 unfold bk;rw[List.getD_eq_getElem?_getD,List.getElem?_map,List.getElem?_range h];rfl
def CI:List Nat:=[0,2,3,4,8,9]
def KL:Sl:=ah Tryz.types Tryz.f230 CI []
theorem Uo:aE Tryz.prog Tryz.f230 CI KL 1=true:=by decide +kernel
theorem Jx(n:Nat)(h1:n<=1048576):aA Tryz.prog 230 [.v (.int .i64 n)] (ints (bk n)):=by
 have hm:(bk n).length<=maxLen:=by rw[dq];simp only[maxLen];omega
 refine aQ Tryz.func230 Uo ?_;unfold KL ah CI;simp only[go_sem];refine⟨⟨Nat.le_refl _,by omega⟩,?_⟩;refine au [3] (fun(i:Nat)=>[(2,.o (ints (lO (bk n) 0 i))),(5,.int .i64 i)]) (fun i=>i<=n) (fun i=>n-i) 0 (by simp only[go_sem];rfl) (Nat.zero_le _) ?_ ?_
 ·simp only[go_sem,PC,dq];rfl
 rintro i hi;simp only[go_sem];refine⟨fun h=>?_,fun h=>?_⟩
 ·have I:i<n:=by simp only[List.length_replicate] at h;omega
  refine⟨by rw[FA (by rw[dq];omega),dq];exact I,by rw[FA (by rw[dq];omega),dq];exact I,i+1,by omega,by omega,?_⟩;have:=PB (d:=0) (z:=0) (l:=bk n) (i:=i) (by rw[dq];omega);rw[Ts I] at this;rw[this,aw (n:=n) I (by simp only[maxLen];omega)]
 ·rw[PA (by rw[dq];simp only[List.length_replicate] at h;omega)]
def CB:List Nat:=[0,2]
def KD:Sl:=ah Tryz.types Tryz.f223 CB []
theorem Uh:aE Tryz.prog Tryz.f223 CB KD 1=true:=by decide +kernel
theorem Yp(n:Nat)(h1:n<=1048576):aA Tryz.prog 223 [.v (.int .i64 n)] (ints (bk n)):=by
 refine aQ Tryz.func223 Uh ?_;unfold KD ah CB;simp only[go_sem];refine aj (Jx n h1) rfl (.inl (bJ _)) ?_;simp only[go_sem]
def CE:List Nat:=[0,1,4]
def KG:Sl:=ah Tryz.types Tryz.f259 CE []
theorem Uk:aE Tryz.prog Tryz.f259 CE KG 2=true:=by decide +kernel
theorem A3(J:List Int)(hU:UF J)(_:J.length<=1048576)(x:Nat)(hx:x<J.length) :
  aA Tryz.prog 259 [.io (.o (ints J)) (.o (ints (eU (x+1) J x).2)),.v (.int .i64 x)] (.int .i64 (rep J x)):=by
 refine aQ Tryz.func259 Uk ?_;unfold KG ah CE;simp only[go_sem];refine au [] (fun(p:List Int×Nat×Nat)=>[(3,.o (ints p.1)),(1,.int .i64 p.2.1)]) (fun p=>UF p.1/\p.1.length=J.length/\p.2.1<J.length/\p.2.1<p.2.2/\eU p.2.2 p.1 p.2.1=eU (x+1) J x) (fun p=>p.2.1) (J,x,x+1) (by simp only[go_sem];rfl) ⟨hU,rfl,hx,Nat.lt_succ_self _,rfl⟩ rfl ?_;rintro⟨K,y,f⟩ ⟨V,I,hy,hf,W⟩;simp only at V I hy hf W;obtain⟨z,S,hz⟩:=V.get (show y<K.length by omega);obtain⟨u,Y,hu⟩:=V.get (show z<K.length by omega);simp only[go_sem,S,Y];refine⟨by omega,fun h=>?_,fun h=>?_⟩
 ·have Z:z<y:=by
   rw[bne_iff_ne] at h;omega
  refine⟨by omega,by omega,by omega,by omega,by rw[List.length_set];omega,?_⟩;obtain⟨g,rfl⟩:∃g,f=g+1:=⟨f-1,by omega⟩;have aK:=Zo (f:=g) (J:=K) (x:=y) (by omega);rw[S,Int.toNat_natCast,Y,Int.toNat_natCast] at aK;obtain⟨h1,h2⟩:=V.GG (show y<K.length by omega) S Z Y;exact⟨(K.set y (u:Int),u,g),⟨h1,by show(K.set y (u:Int)).length=_;rw[List.length_set,I],by show u<_;omega,by show u<g;omega,by rw[<-aK];exact W⟩,by show u<y;omega,by rw[ln (by omega),if_pos rfl]⟩
 ·rw[bne_eq_false_iff_eq] at h
  have e3:K.getD y 0=(y:Int):=by rw[S,h]
  obtain⟨g,rfl⟩:∃g,f=g+1:=⟨f-1,by omega⟩;have e4:eU (g+1) K y=(y,K):=by rw[eU,if_pos e3]
  have e5:=(qx (x+1) hU hx (Nat.lt_succ_self _)).1;rw[e4] at W;rw[<-W] at e5|-
  rw[<-e5];exact⟨rfl,rfl⟩
noncomputable def mS(J:List Int)(x y:Nat):List Int :=
 ((eU (y+1) (eU (x+1) J x).2 y).2).set (max (rep J x) (rep J y)) ((min (rep J x) (rep J y):Nat):Int)
theorem Q4{J:List Int}(Y:UF J){x y:Nat}(S:x<J.length)(Z:y<J.length):UF (mS J x y)/\(mS J x y).length=J.length/\∀u,u<J.length->rep (mS J x y) u=if rep J u=max (rep J x) (rep J y) then min (rep J x) (rep J y) else rep J u:=by
 obtain⟨_,a2,a3,a4⟩:=qx (x+1) Y S (Nat.lt_succ_self _);obtain⟨_,V,b3,W⟩:=qx (y+1) a2 (show y<_ by omega) (Nat.lt_succ_self _);have I:∀u,u<J.length->rep (eU (y+1) (eU (x+1) J x).2 y).2 u=rep J u:=fun u hu=>(W u (by omega)).trans (a4 u hu)
 obtain⟨c1,c2⟩:=V.join (show x<_ by omega) (show y<_ by omega);rw[I x S,I y Z] at c1 c2;refine⟨c1,by unfold mS;rw[List.length_set];omega,fun u hu=>?_⟩;unfold mS;rw[c2 u (by omega),I u hu]
def CC:List Nat:=[0,1,2,6,7,8]
def KE:Sl:=ah Tryz.types Tryz.f226 CC [(2,259)]
theorem Ui:aE Tryz.prog Tryz.f226 CC KE 3=true:=by decide +kernel
theorem Yq(J:List Int)(V:UF J)(hl:J.length<=1048576)(x y:Nat)(W:x<J.length)(Y:y<J.length) :
  aA Tryz.prog 226 [.io (.o (ints J)) (.o (ints (mS J x y))),.v (.int .i64 x),.v (.int .i64 y)] (.bool (rep J x != rep J y)):=by
 obtain⟨_,a2,a3,a4⟩:=qx (x+1) V W (Nat.lt_succ_self _);obtain⟨_,b2,b3,b4⟩:=qx (y+1) a2 (show y<_ by omega) (Nat.lt_succ_self _);refine aQ Tryz.func226 Ui ?_;unfold KE ah CC;simp only[go_sem];refine zn (A3 J V hl x W) rfl trivial rfl ?_;simp only[go_sem];refine zn (A3 (eU (x+1) J x).2 a2 (by omega) y (by omega)) rfl trivial rfl ?_;rw[a4 y Y];simp only[go_sem];have ab:=(V.oJ W).1;have ad:=(V.oJ Y).1;have I:max ((rep J x:Nat):Int) ((rep J y:Nat):Int)=((max (rep J x) (rep J y):Nat):Int):=by omega
 have S:min ((rep J x:Nat):Int) ((rep J y:Nat):Int)=((min (rep J x) (rep J y):Nat):Int):=by omega
 rw[I,S,Int.toNat_natCast];refine⟨⟨by omega,by omega⟩,by omega,?_,rfl⟩;by_cases h:rep J x=rep J y
 ·simp[h]
 ·have Z:((rep J x:Nat):Int)≠(rep J y:Nat):=by omega
  rw[bne_iff_ne.2 Z,bne_iff_ne.2 h]
def CJ:List Nat:=[0,2,3,5,6,7,8]
def KM:Sl:=ah Tryz.types Tryz.f228 CJ []
theorem Up:aE Tryz.prog Tryz.f228 CJ KM 1=true:=by decide +kernel
theorem Yu(l:List Int)(S:l.length<=1048576)(I:∀i,i<l.length->0<=l.getD i 0/\l.getD i 0<1048576):aA Tryz.prog 228 [.v (ints l)] (.int .i64 (l.foldl (fun m k=>max m (k+1)) 0)):=by
 refine aQ Tryz.func228 Up ?_;unfold KM ah CJ;simp only[go_sem];refine au [3] (fun(i:Nat)=>[(2,.int .i64 ((l.take i).foldl (fun m k=>max m (k+1)) 0)),(6,.int .i64 i)]) (fun i=>i<=l.length) (fun i=>l.length-i) 0 (by simp only[go_sem];rfl) (Nat.zero_le _) rfl ?_;intro i hi;simp only[go_sem];refine⟨fun h=>⟨h,i+1,h,by omega,?_⟩,fun h=>?_⟩
 ·have:=I i h
  rw[b7 h 0,List.foldl_append,aw h (by simp only[maxLen];omega),wrap_small (n:=l.getD i 0+1) (by omega) (by omega)];rfl
 ·rw[List.take_of_length_le (by omega)]
def Cs:List Nat:=[0,2,3,4,5,9,10,11]
def Ku:Sl:=ah Tryz.types Tryz.f167 Cs []
theorem T8:aE Tryz.prog Tryz.f167 Cs Ku 1=true:=by decide +kernel
theorem Yl(l:List Int)(V:l.length<=1048576)(I:∀i,i<l.length->0<=l.getD i 0/\l.getD i 0<l.length) :
  aA Tryz.prog 167 [.v (ints l)] (ints ((List.range l.length).foldl (fun o x=>o.set (l.getD x 0).toNat (x:Int)) (List.replicate l.length 0))):=by
 have hlen:∀i,((List.range i).foldl (fun o x=>o.set (l.getD x 0).toNat (x:Int)) (List.replicate l.length 0)).length=l.length:=fun i=>by
  induction i with
  | zero=>simp
  | succ i S=>rw[List.range_succ,List.foldl_append];show(List.set _ _ _).length=_;rw[List.length_set,S]
 refine aQ Tryz.func167 T8 ?_;unfold Ku ah Cs;simp only[go_sem];refine⟨⟨Nat.le_refl _,by omega⟩,?_⟩;refine au [3,4] (fun(i:Nat)=>[(2,.o (ints ((List.range i).foldl (fun o x=>o.set (l.getD x 0).toNat (x:Int)) (List.replicate l.length 0)))),(7,.int .i64 i)]) (fun i=>i<=l.length) (fun i=>l.length-i) 0 (by simp only[go_sem];rfl) (Nat.zero_le _) rfl ?_;intro i hi;simp only[go_sem];simp only[hlen];refine⟨fun h=>⟨h,I i h,by have:=I i h;omega,i+1,h,by omega,?_⟩,fun h=>by rw[show i=l.length by omega]⟩;rw[List.range_succ,List.foldl_append,aw h (by simp only[maxLen];omega)];rfl
end Go.D3
namespace Go.D3
open Go Proofs
set_option maxHeartbeats 4000000
set_option maxRecDepth 100000
def fk:Nat->List Int->List (Int×Int)
 | _,[]=>[]
 | k,x::r=>(x,(k:Int))::fk (k+1) r
theorem zx:∀{k:Nat}{s:List Int},(fk k s).length=s.length
 | _,[]=>rfl
 | k,_::r=>by show(fk (k+1) r).length+1=_;rw[zx];rfl
theorem GV:∀{k:Nat}{s:List Int}{x:Int},fk k (s++[x])=fk k s++[(x,((k+s.length:Nat):Int))]
 | _,[],_=>rfl
 | k,y::r,x=>by
  show(y,(k:Int))::fk (k+1) (r++[x])=(y,(k:Int))::(fk (k+1) r++_);rw[GV,List.length_cons,show k+1+r.length=k+(r.length+1) by omega]
theorem zy:∀{k:Nat}{s:List Int}{x:Int},x ∉ s->eA (fk k s) x=none/\l6 (fk k s) x=false
 | _,[],_,_=>⟨rfl,rfl⟩
 | k,y::r,x,h=>by
  have I:(x == y)=false:=beq_eq_false_iff_ne.2 fun e=>h (e▸List.mem_cons_self)
  obtain⟨h1,S⟩:=zy (k:=k+1) (s:=r) (x:=x) fun hm=>h (List.mem_cons_of_mem _ hm)
  constructor
  ·show eA ((y,(k:Int))::fk (k+1) r) x=none
   unfold eA at h1|-
   rw[List.findIdx?_cons];simp only[I,h1,Option.map_none,Bool.false_eq_true,if_false]
  ·show l6 ((y,(k:Int))::fk (k+1) r) x=false
   unfold l6 at S|-
   rw[List.any_cons,I,S];rfl
theorem GU:∀{k:Nat}{s:List Int}{x z:Int},x∈s->jV (fk k s) x z=((k+s.findIdx (·== x):Nat):Int)/\l6 (fk k s) x=true
 | k,y::r,x,z,h=>by
  by_cases e:x=y
  ·subst e
   constructor
   ·show jV ((x,(k:Int))::fk (k+1) r) x z=_
    unfold jV;rw[List.find?_cons,List.findIdx_cons];simp
   ·show l6 ((x,(k:Int))::fk (k+1) r) x=true
    unfold l6;rw[List.any_cons];simp
  ·have I:(x == y)=false:=beq_eq_false_iff_ne.2 e
   have S:(y == x)=false:=beq_eq_false_iff_ne.2 (Ne.symm e);obtain⟨h1,V⟩:=GU (k:=k+1) (s:=r) (x:=x) (z:=z) ((List.mem_cons.1 h).resolve_left e);constructor
   ·show jV ((y,(k:Int))::fk (k+1) r) x z=_
    unfold jV at h1|-
    rw[List.find?_cons,List.findIdx_cons];simp only[I,S,cond_false];rw[h1];omega
   ·show l6 ((y,(k:Int))::fk (k+1) r) x=true
    unfold l6 at V|-
    rw[List.any_cons,I,V];rfl
theorem Q1{s:List Int}{x:Int}(h:x ∉ s):gW (fk 0 s) x (s.length:Int)=fk 0 (s++[x]):=by
 unfold gW;rw[(zy h).1,GV,Nat.zero_add]
theorem Pp{p:List Int×List Int}{x:Int}(h:x∈p.1):ky p x=(p.1,p.2++[((p.1.findIdx (·== x):Nat):Int)]):=by
 have I:p.1.findIdx (·== x)<p.1.length:=List.findIdx_lt_length_of_exists ⟨x,h,by simp⟩;unfold ky gq;rw[if_pos I,if_neg (by omega)]
theorem Po{p:List Int×List Int}{x:Int}(h:x ∉ p.1):ky p x=(p.1++[x],p.2++[(p.1.length:Int)]):=by
 have I:¬p.1.findIdx (·== x)<p.1.length:=fun I=>by
  have:=List.findIdx_getElem (w:=I);have e:p.1[p.1.findIdx (·== x)]=x:=by simpa using this
  exact h (e▸List.getElem_mem I)
 unfold ky gq;rw[if_neg I,if_pos (by omega)]
def px(l:List Int)(i:Nat):List Int:=(eM (l.take i)).2++List.replicate (l.length-i) 0
theorem Pm{l:List Int}{i:Nat}(h:i<=l.length):(px l i).length=l.length:=by
 have:=(pv (L:=l) i h).len;unfold px;rw[List.length_append,this,List.length_replicate];omega
theorem Fu{l:List Int}{i:Nat}{v:Int}(h:i<l.length)(I:(eM (l.take (i+1))).2=(eM (l.take i)).2++[v]):(px l i).set i v=px l (i+1):=by
 have:=(pv (L:=l) i (by omega)).len;unfold px;rw[List.set_append_right _ _ (by omega),this,Nat.sub_self,I,show l.length-i=(l.length-(i+1))+1 by omega,List.replicate_succ,List.set_cons_zero,List.append_assoc];rfl
def CH:List Nat:=[0,2,3,4,5,6,7,8,13,14,15]
def KK:Sl:=ah Tryz.types Tryz.f260 CH []
theorem Un:aE Tryz.prog Tryz.f260 CH KK 1=true:=by decide +kernel
theorem Yt(l:List Int)(Z:l.length<=1048576):aA Tryz.prog 260 [.v (ints l)] (ints (cT l)):=by
 refine aQ Tryz.func260 Un ?_;unfold KK ah CH;simp only[go_sem];refine⟨⟨Nat.le_refl _,by omega⟩,?_⟩;refine au [4,5,6,7] (fun(i:Nat)=>[(2,.o (bW (D.int .i64) (D.int .i64) (fk 0 (eM (l.take i)).1))),(3,.o (ints (px l i))),(10,.int .i64 i)]) (fun i=>i<=l.length) (fun i=>l.length-i) 0 (by simp only[go_sem];rfl) (Nat.zero_le _) ?_ ?_
 ·simp only[go_sem];rfl
 intro i hi;simp only[go_sem];have V:=pv (L:=l) i hi;have Y:=V.sle hi;have W:=Pm hi;refine⟨fun h=>?_,fun h=>?_⟩
 ·have hw:=aw h (show l.length<=maxLen by simp only[maxLen];omega)
  have I:eM (l.take (i+1))=ky (eM (l.take i)) (l.getD i 0):=by rw[b7 h 0,yq]
  by_cases hm:l.getD i 0∈(eM (l.take i)).1
  ·obtain⟨g1,g2⟩:=GU (k:=0) (z:=0) hm
   rw[g1,g2,Nat.zero_add];rw[Pp hm] at I;refine⟨h,fun S=>by(cases S),fun _=>⟨by omega,by omega,i+1,h,by omega,?_⟩⟩;rw[hw,Fu h (by rw[I]),I]
  ·obtain⟨_,g2⟩:=zy (k:=0) hm
   rw[g2];rw[Po hm] at I;refine⟨h,fun _=>⟨by rw[zx];simp only[maxLen];omega,by omega,by omega,i+1,h,by omega,?_⟩,fun S=>by(cases S)⟩;rw[hw,zx,Fu h (by rw[I]),Q1 hm,I]
 ·have e:i=l.length:=by omega
  unfold px cT;rw[e,Nat.sub_self,List.replicate_zero,List.append_nil,List.take_length]
noncomputable def iu(J:List Int)(i:Nat):List Int:=(List.range i).map fun x:Nat=>((rep J x:Nat):Int)
def jf(J:List Int)(i:Nat):List Int:=(List.range i).foldl (fun K x=>(eU (x+1) K x).2) J
theorem Ez{J:List Int}(I:UF J):∀i,i<=J.length->UF (jf J i)/\(jf J i).length=J.length/\∀u,u<J.length->rep (jf J i) u=rep J u
 | 0,_=>⟨I,rfl,fun _ _=>rfl⟩
 | i+1,h=>by
  obtain⟨h1,S,V⟩:=Ez I i (by omega);have e:jf J (i+1)=(eU (i+1) (jf J i) i).2:=by unfold jf;rw[List.range_succ,List.foldl_append];rfl
  obtain⟨_,a2,a3,a4⟩:=qx (i+1) h1 (show i<_ by omega) (Nat.lt_succ_self _);rw[e];exact⟨a2,a3.trans S,fun u hu=>(a4 u (by omega)).trans (V u hu)⟩
theorem rI{J:List Int}{i:Nat}:(iu J i).length=i:=by simp[iu]
theorem Rj{J:List Int}{i x:Nat}(h:x<i):(iu J i).getD x 0=rep J x:=by
 unfold iu;rw[aM (by simpa using h)];simp
def CD:List Nat:=[0,2,3,4,9,10]
def KF:Sl:=ah Tryz.types Tryz.f227 CD [(2,259)]
theorem Uj:aE Tryz.prog Tryz.f227 CD KF 1=true:=by decide +kernel
theorem Yr(J:List Int)(V:UF J)(W:J.length<=1048576):aA Tryz.prog 227 [.io (.o (ints J)) (.o (ints (jf J J.length)))] (ints (cT (iu J J.length))):=by
 refine aQ Tryz.func227 Uj ?_;unfold KF ah CD;simp only[go_sem];refine⟨⟨Nat.le_refl _,by omega⟩,?_⟩;refine au [3] (fun(i:Nat)=>[(2,.o (ints (iu J i++List.replicate (J.length-i) 0))),(5,.int .i64 i),(6,.o (ints (jf J i)))]) (fun i=>i<=J.length) (fun i=>J.length-i) 0 (by simp only[go_sem];rfl) (Nat.zero_le _) rfl ?_;intro i hi;obtain⟨h1,Y,S⟩:=Ez V i hi;simp only[go_sem];refine⟨fun h=>?_,fun h=>?_⟩
 ·refine zn (A3 (jf J i) h1 (by omega) i (by omega)) rfl trivial rfl ?_
  rw[S i h];simp only[go_sem];have hlen:(iu J i++List.replicate (J.length-i) 0).length=J.length:=by rw[List.length_append,rI,List.length_replicate];omega
  rw[hlen];have e:jf J (i+1)=(eU (i+1) (jf J i) i).2:=by unfold jf;rw[List.range_succ,List.foldl_append];rfl
  have I:(iu J i++List.replicate (J.length-i) 0).set i (rep J i:Int)=iu J (i+1)++List.replicate (J.length-(i+1)) 0:=by
   rw[List.set_append_right _ _ (by rw[rI];omega),rI,Nat.sub_self,show J.length-i=(J.length-(i+1))+1 by omega,List.replicate_succ,List.set_cons_zero];unfold iu;rw[List.range_succ,List.map_append,List.append_assoc];rfl
  refine⟨h,h,i+1,h,by omega,?_⟩;rw[I,e,aw h (by simp only[maxLen];omega)]
 ·have e:i=J.length:=by omega
  subst e;rw[Nat.sub_self,List.replicate_zero,List.append_nil];refine aj (Yt (iu J J.length) (by rw[rI];exact W)) rfl (.inl (bJ _)) ?_;simp only[go_sem]
end Go.D3
namespace Go.D3
open Go Proofs
set_option maxHeartbeats 4000000
set_option maxRecDepth 100000
def uX(s:aa)(o:List U):Prop:=s.nd.toNat<=o.length/\(∀j,s.nd.toNat<=j->j<o.length->(o.getD j U.zero).ed≠[])/\∀j,j<s.nd.toNat->(o.getD j U.zero).ed=[]
structure xQ(s:aa)(o:List U):Prop where
 a:dQ s o
 nd:o.Nodup
 len:o.length<=400
 f:uX s o
def NP(s:aa)(rc:D)(gs:List D):Prop:=gs=[]/\∃l,rc=.o (.av l)/\((∃o,l=[ae U.d U.zero o,.bz]/\xQ s o)\/∃m,l=[ae U.d U.zero [],.bE 159 (.agg [.str m])]/\¬s.fits)
def Co:List Nat:=[0,2,3,4,5,6,7,9,10,15,16,50,51,52]
def Kq:Sl:=ah Tryz.types Tryz.f221 Co []
theorem T4:aE Tryz.prog Tryz.f221 Co Kq 1=true:=by decide +kernel
theorem Yi(s:aa)(hs:iM s):bn Tryz.prog 221 [.ptr s.cells] [] (NP s):=by
 have h0:=hs.n0;have h8:=hs.n8;have hf:=hs.f8;have b0:=hs.to;refine dB .tree Tryz.func221 T4 ?_;unfold Kq ah Co;simp only[go_sem];refine au [4] (fun(i:Nat)=>[(3,.o (ae U.d U.zero (jm i))),(10,.int .i64 i)]) (fun i=>(i:Int)<=s.nd) (fun i=>s.nd.toNat-i) 0 (by simp only[go_sem];rfl) h0 rfl ?_;intro i hi;simp only[go_sem];refine⟨fun h=>?_,fun h=>?_⟩
 ·rw[p8]
  exact⟨by omega,i+1,by omega,by omega,by rw[aw (n:=9) (by omega) (by decide),HO]⟩
 obtain rfl:i=s.nd.toNat:=by omega
 refine au [6,7,8,11,12,13] (fun(p:Nat×List U)=>[(3,.o (ae U.d U.zero p.2)),(5,.int .i64 p.1)]) (fun p=>p.1<=p.2.length/\p.2.length<=400/\fO s p.2 p.1/\jE p.2 p.1 0/\uX s p.2) (fun p=>400-p.1) (0,jm s.nd.toNat) (by simp only[go_sem];rfl) ⟨Nat.zero_le _,by rw[p8];omega,HP hs,.zero,⟨by rw[p8];exact Nat.le_refl _,fun j h1 Z=>by rw[p8] at Z;omega,fun j hj=>by rw[aM (by rw[p8];exact hj)];simp[jm]⟩⟩ rfl ?_;clear hi h;rintro⟨i,o⟩ ⟨hi,hl,hI,hN,hF⟩;simp only at hi hl hI hN hF;simp only[go_sem];refine⟨fun h=>⟨h,h,fun h6=>?_,fun h6=>⟨h,h,?_⟩⟩,fun h=>?_⟩
 ·exact⟨(i+1,o),⟨h,hl,hI.iD (by omega),hN.mono (.inl (Nat.lt_succ_self _)),hF⟩,by show 400-(i+1)<400-i;omega,by rw[aw h (by simp only[maxLen];omega)]⟩
 ·obtain⟨y,hy⟩:=hI.at' h
  have bT:=(bN.1 hy).2.1;rw[beq_eq_false_iff_ne] at h6;generalize hP:o.getD i U.zero=P at hy bT h6;have bg:P.ed.length<6:=by omega
  have Y:=oM s P b0 h0;rw[hy] at Y;simp only[kD] at Y;refine aj Y rfl (.inl rfl) ?_;simp only[go_sem]
  refine au [7,8] (fun(p:Nat×List U)=>[(3,.o (ae U.d U.zero p.2)),(13,.int .i64 p.1)]) (fun p=>p.1<=s.fr.length/\o.length<=p.2.length/\p.2.length<=400/\fO s p.2 i/\jE p.2 i p.1/\uX s p.2/\p.2.getD i U.zero=P /\
   ∀e:Nat,e<p.1->s.aO P=some (s.fr.getD e 0)->(⟨P.st,P.ed++[(e:Int)]⟩:U)∈p.2) (fun p=>s.fr.length-p.1) (0,o) (by simp only[go_sem];rfl) ⟨Nat.zero_le _,Nat.le_refl _,hl,hI,hN,hF,hP,fun e he=>absurd he (Nat.not_lt_zero _)⟩ rfl ?_
  rintro⟨k,q⟩ ⟨hk,a7,a1,ab,ad,S,I,ag⟩;simp only at hk a7 a1 ab ad S I ag;simp only[go_sem];refine⟨fun Z=>⟨Z,fun h3=>?_,fun h3=>?_⟩,fun Z=>?_⟩
  ·rw[bne_iff_ne] at h3
   refine⟨(k+1,q),⟨Z,a7,a1,ab,ad.mono (.inr ⟨rfl,Nat.le_succ k⟩),S,I,fun e he V=>?_⟩,by show s.fr.length-(k+1)<s.fr.length-k;omega,by rw[aw Z (by simp only[maxLen];omega)]⟩;by_cases ax:e=k
   ·subst ax
    rw[hy] at V;injection V with V
    exact absurd V.symm h3
   ·exact ag e (by simp only at he;omega) V
  ·rw[bne_eq_false_iff_eq] at h3
   have V:=pB (p:=P) (e:=k) (by rw[h3];exact hy) Z bg;have ao:=ab.add (by omega) V;have W:=ad.add (k:=k) (show i<q.length by omega);rw[I] at W;have hlen:(q++[(⟨P.st,P.ed++[(k:Int)]⟩:U)]).length=q.length+1:=by rw[List.length_append];rfl
   have a6:(q++[(⟨P.st,P.ed++[(k:Int)]⟩:U)]).getD i U.zero=P:=by rw[ee (by omega),if_neg (by omega),I]
   have bF:∀e:Nat,e<k+1->s.aO P=some (s.fr.getD e 0)->(⟨P.st,P.ed++[(e:Int)]⟩:U)∈q++[(⟨P.st,P.ed++[(k:Int)]⟩:U)]:=fun e he V=>by
    by_cases ax:e=k
    ·subst ax;simp
    ·exact List.mem_append_left _ (ag e (by omega) V)
   have a8:uX s (q++[(⟨P.st,P.ed++[(k:Int)]⟩:U)]):=by
    refine⟨by rw[hlen];exact Nat.le_succ_of_le S.1,fun j h5 h6=>?_,fun j h5=>by have:=S.1;rw[ee (by omega),if_neg (by omega)];exact S.2.2 j h5⟩;rw[ee (by rw[hlen] at h6;omega)];split
    ·simp
    ·rw[hlen] at h6;exact S.2.1 j h5 (by omega)
   have hw:=aw Z (show s.fr.length<=maxLen by simp only[maxLen];omega);refine⟨fun h7=>?_,fun h7=>?_⟩
   ·exact⟨_,_,⟨rfl,_,rfl,.inr ⟨_,rfl,HR W.nd ao.v (by rw[hlen];omega)⟩⟩,rfl,rfl,trivial⟩
   ·rw[I]
    rw[beq_eq_false_iff_ne] at h7
    with_reducible (repeat' apply And.intro)
    all_goals(try(show i<q.length;omega))
    all_goals(
     try rw[I]
     refine aj (kc P.ed (by omega)) rfl (.inl (bJ _)) ?_;simp only[go_sem,I]
     with_reducible (repeat' apply And.intro)
     all_goals(first
      | exact⟨(k+1,_),⟨Z,by rw[hlen];omega,by rw[hlen];omega,ao,W,a8,a6,bF⟩,by simp only;omega,by rw[hw]⟩
      | omega))
  ·exact⟨(i+1,q),⟨by show i+1<=q.length;omega,a1,ab.next fun e he V=>by rw[I] at V|-;exact ag e (by omega) V,ad.mono (.inl (Nat.lt_succ_self _)),S⟩,by show 400-(i+1)<400-i;omega,by rw[aw h (by simp only[maxLen];omega)]⟩
 ·exact⟨_,_,⟨rfl,_,rfl,.inl ⟨o,rfl,hI.done (by omega),hN.nd,hl,hF⟩⟩,rfl,rfl,trivial⟩
end Go.D3
namespace Go.D3
open Go
theorem zI:∀{l:List Int}{m:Int},m<=l.foldl (fun m k=>max m (k+1)) m/\∀x∈l,x+1<=l.foldl (fun m k=>max m (k+1)) m
 | [],m=>⟨Int.le_refl _,fun x I=>by cases I⟩
 | y::l,m=>by
  obtain⟨h1,S⟩:=zI (l:=l) (m:=max m (y+1));rw[List.foldl_cons];refine⟨by omega,fun x I=>?_⟩;rcases List.mem_cons.1 I with rfl | I
  ·omega
  ·exact S x I
theorem HE:∀{l:List Int}{m n:Int},m<=n->(∀x∈l,x+1<=n)->l.foldl (fun m k=>max m (k+1)) m<=n
 | [],_,_,h,_=>h
 | y::l,m,n,h,hl=>HE (l:=l) (m:=max m (y+1)) (by have:=hl y List.mem_cons_self;omega) fun x I=>hl x (List.mem_cons_of_mem _ I)
theorem Pq(L:List Int):∃nc:Nat,(cT L).foldl (fun m k=>max m (k+1)) 0=(nc:Int)/\nc<=L.length/\(∀i,i<L.length->0<=(cT L).getD i 0/\(cT L).getD i 0<nc)/\∀c,c<nc->∃m,m<L.length/\(cT L).getD m 0=c:=by
 have h:=pv (L:=L) L.length (Nat.le_refl _);rw[List.take_length] at h;have hlen:(cT L).length=L.length:=h.len;have S:=h.sle (Nat.le_refl _);refine⟨(eM L).1.length,?_,S,fun i hi=>?_,fun c V=>h.s c V⟩
 ·refine Int.le_antisymm (HE (by omega) fun x W=>?_) ?_
  ·obtain⟨i,hi,rfl⟩:=ff (d:=0) W
   obtain⟨k,h1,I,_⟩:=h.o i (by omega);have:(cT L).getD i 0=k:=I;omega
  ·by_cases h0:(eM L).1.length=0
   ·have:=(zI (l:=cT L) (m:=0)).1
    omega
   ·obtain⟨m,h1,I⟩:=h.s ((eM L).1.length-1) (by omega)
    have:=(zI (l:=cT L) (m:=0)).2 _ (dj (d:=0) (show m<(cT L).length by omega));have e:(cT L).getD m 0=((((eM L).1.length-1:Nat)):Int):=I;omega
 ·obtain⟨k,h1,I,_⟩:=h.o i hi
  have:(cT L).getD i 0=k:=I;omega
theorem jB.jY{s:aa}(Y:s.ok=true){list:List U}(hA:dQ s list)(hn:list.Nodup){cl:List Int}(hc:jb s list cl){nc:Nat}{K:List U}(h:jB s list cl nc K){c:Nat}(S:c<nc)(h6:(K.getD c U.zero).ed.length=6):s.gK none:=by
 obtain⟨ls,V⟩:=aa.cF.ME Y hn hA;obtain⟨m,a1,a2,a3⟩:=h.ex c S;have ab:s.sp (K.getD c U.zero):=by rw[a3];exact hA.at' a1
 obtain⟨q,Z,he⟩:=V.ex _ ab
 have e:K.getD c U.zero=q:=by
  refine lt_eq (V.min q Z _ he.symm) fun W=>?_
  obtain⟨y,hy⟩:=V.sp q Z;obtain⟨k,hk,rfl⟩:=ff (d:=U.zero) (hA.a q y hy);rw[a3] at he;have:=(hc.eq m k a1 hk).2 he;exact h.min k c hk S (by omega) W
 refine .jY ls V fun I=>?_
 have:=I.1 q Z;rw[<-e] at this;omega
end Go.D3
