/- CONTRACTS: linked paths, the program's side. -/
import Derived.Test.YtpnchponfnbmiaaGreatDoorGAI
import Derived.Test.YtpnchponfnbmiaaGreatDoorGAE
namespace Go.D3
open Go
set_option maxHeartbeats 4000000
set_option maxRecDepth 100000
theorem M4{n i:Nat}(h:i<n):(br n).getD i 0=i:=by
 unfold br;rw[List.getD_eq_getElem?_getD,List.getElem?_map,List.getElem?_range h];rfl
def zl:List Nat:=[0,2,3,4,8,9]
def Gd:Sl:=ae Go.Proofs.Tryz.types Go.Proofs.Tryz.f181 zl []
theorem NS:aD Go.Proofs.Tryz.prog Go.Proofs.Tryz.f181 zl Gd 1=true:=by decide +kernel
theorem E3(n:Nat)(h1:n<=1048576):al Go.Proofs.Tryz.prog 181 [.v (.int .i64 n)] (ints (br n)):=by
 have hm:(br n).length<=maxLen:=by rw[dF];simp only[maxLen];omega
 refine aA Go.Proofs.Tryz.func181 NS ?_;unfold Gd ae zl;simp only[go_sem];refine⟨⟨Nat.le_refl _,by omega⟩,?_⟩;refine aI [3] (fun(i:Nat)=>[(2,.o (ints (dM (br n) 0 i))),(5,.int .i64 i)]) (fun i=>i<=n) (fun i=>n-i) 0 (by simp only[go_sem];rfl) (Nat.zero_le _) ?_ ?_
 ·simp only[go_sem,u6,dF];rfl
 rintro i hi;simp only[go_sem];refine⟨fun h=>?_,fun h=>?_⟩
 ·have hi':i<n:=by simp only[List.length_replicate] at h;omega
  refine⟨by rw[oE (by rw[dF];omega),dF];exact hi',by rw[oE (by rw[dF];omega),dF];exact hi',i+1,by omega,by omega,?_⟩;have:=u5 (d:=0) (z:=0) (l:=br n) (i:=i) (by rw[dF];omega);rw[M4 hi'] at this;rw[this,aH (n:=n) hi' (by simp only[maxLen];omega)]
 ·rw[u4 (by rw[dF];simp only[List.length_replicate] at h;omega)]
def za:List Nat:=[0,2]
def F4:Sl:=ae Go.Proofs.Tryz.types Go.Proofs.Tryz.f174 za []
theorem NJ:aD Go.Proofs.Tryz.prog Go.Proofs.Tryz.f174 za F4 1=true:=by decide +kernel
theorem Q4(n:Nat)(h1:n<=1048576):al Go.Proofs.Tryz.prog 174 [.v (.int .i64 n)] (ints (br n)):=by
 refine aA Go.Proofs.Tryz.func174 NJ ?_;unfold F4 ae za;simp only[go_sem];refine ak (E3 n h1) rfl (.inl (bL _)) ?_;simp only[go_sem]
def zf:List Nat:=[0,1,4]
def F7:Sl:=ae Go.Proofs.Tryz.types Go.Proofs.Tryz.f208 zf []
theorem NM:aD Go.Proofs.Tryz.prog Go.Proofs.Tryz.f208 zf F7 2=true:=by decide +kernel
theorem xD(J:List Int)(hU:UF J)(_:J.length<=1048576)(x:Nat)(hx:x<J.length) :
  al Go.Proofs.Tryz.prog 208 [.io (.o (ints J)) (.o (ints (dP (x+1) J x).2)),.v (.int .i64 x)] (.int .i64 (rep J x)):=by
 refine aA Go.Proofs.Tryz.func208 NM ?_;unfold F7 ae zf;simp only[go_sem];refine aI [] (fun(p:List Int×Nat×Nat)=>[(3,.o (ints p.1)),(1,.int .i64 p.2.1)]) (fun p=>UF p.1/\p.1.length=J.length/\p.2.1<J.length/\p.2.1<p.2.2/\dP p.2.2 p.1 p.2.1=dP (x+1) J x) (fun p=>p.2.1) (J,x,x+1) (by simp only[go_sem];rfl) ⟨hU,rfl,hx,Nat.lt_succ_self _,rfl⟩ rfl ?_;rintro⟨K,y,f⟩ ⟨hK,hKl,hy,hf,hr⟩;simp only at hK hKl hy hf hr;obtain⟨z,e1,hz⟩:=hK.get (show y<K.length by omega);obtain⟨u,e2,hu⟩:=hK.get (show z<K.length by omega);simp only[go_sem,e1,e2];refine⟨by omega,fun h=>?_,fun h=>?_⟩
 ·have hzy:z<y:=by
   rw[bne_iff_ne] at h;omega
  refine⟨by omega,by omega,by omega,by omega,by rw[List.length_set];omega,?_⟩;obtain⟨g,rfl⟩:∃g,f=g+1:=⟨f-1,by omega⟩;have aG:=R0 (f:=g) (J:=K) (x:=y) (by omega);rw[e1,Int.toNat_natCast,e2,Int.toNat_natCast] at aG;obtain⟨h1,h2⟩:=hK.Cw (show y<K.length by omega) e1 hzy e2;exact⟨(K.set y (u:Int),u,g),⟨h1,by show(K.set y (u:Int)).length=_;rw[List.length_set,hKl],by show u<_;omega,by show u<g;omega,by rw[<-aG];exact hr⟩,by show u<y;omega,by rw[jn (by omega),if_pos rfl]⟩
 ·rw[bne_eq_false_iff_eq] at h
  have e3:K.getD y 0=(y:Int):=by rw[e1,h]
  obtain⟨g,rfl⟩:∃g,f=g+1:=⟨f-1,by omega⟩;have e4:dP (g+1) K y=(y,K):=by rw[dP,if_pos e3]
  have e5:=(nQ (x+1) hU hx (Nat.lt_succ_self _)).1;rw[e4] at hr;rw[<-hr] at e5|-
  rw[<-e5];exact⟨rfl,rfl⟩
noncomputable def ku(J:List Int)(x y:Nat):List Int :=
 ((dP (y+1) (dP (x+1) J x).2 y).2).set (max (rep J x) (rep J y)) ((min (rep J x) (rep J y):Nat):Int)
theorem KP{J:List Int}(hU:UF J){x y:Nat}(hx:x<J.length)(hy:y<J.length):UF (ku J x y)/\(ku J x y).length=J.length/\∀u,u<J.length->rep (ku J x y) u=if rep J u=max (rep J x) (rep J y) then min (rep J x) (rep J y) else rep J u:=by
 obtain⟨_,a2,a3,a4⟩:=nQ (x+1) hU hx (Nat.lt_succ_self _);obtain⟨_,b2,b3,b4⟩:=nQ (y+1) a2 (show y<_ by omega) (Nat.lt_succ_self _);have hr:∀u,u<J.length->rep (dP (y+1) (dP (x+1) J x).2 y).2 u=rep J u:=fun u hu=>(b4 u (by omega)).trans (a4 u hu)
 obtain⟨c1,c2⟩:=b2.join (show x<_ by omega) (show y<_ by omega);rw[hr x hx,hr y hy] at c1 c2;refine⟨c1,by unfold ku;rw[List.length_set];omega,fun u hu=>?_⟩;unfold ku;rw[c2 u (by omega),hr u hu]
def zb:List Nat:=[0,1,2,6,7,8]
def F5:Sl:=ae Go.Proofs.Tryz.types Go.Proofs.Tryz.f177 zb [(2,208)]
theorem NK:aD Go.Proofs.Tryz.prog Go.Proofs.Tryz.f177 zb F5 3=true:=by decide +kernel
theorem Q5(J:List Int)(hU:UF J)(hl:J.length<=1048576)(x y:Nat)(hx:x<J.length)(hy:y<J.length) :
  al Go.Proofs.Tryz.prog 177 [.io (.o (ints J)) (.o (ints (ku J x y))),.v (.int .i64 x),.v (.int .i64 y)] (.bool (rep J x != rep J y)):=by
 obtain⟨_,a2,a3,a4⟩:=nQ (x+1) hU hx (Nat.lt_succ_self _);obtain⟨_,b2,b3,b4⟩:=nQ (y+1) a2 (show y<_ by omega) (Nat.lt_succ_self _);refine aA Go.Proofs.Tryz.func177 NK ?_;unfold F5 ae zb;simp only[go_sem];refine vK (xD J hU hl x hx) rfl trivial rfl ?_;simp only[go_sem];refine vK (xD (dP (x+1) J x).2 a2 (by omega) y (by omega)) rfl trivial rfl ?_;rw[a4 y hy];simp only[go_sem];have hrx:=(hU.ma hx).1;have hry:=(hU.ma hy).1;have emax:max ((rep J x:Nat):Int) ((rep J y:Nat):Int)=((max (rep J x) (rep J y):Nat):Int):=by omega
 have emin:min ((rep J x:Nat):Int) ((rep J y:Nat):Int)=((min (rep J x) (rep J y):Nat):Int):=by omega
 rw[emax,emin,Int.toNat_natCast];refine⟨⟨by omega,by omega⟩,by omega,?_,rfl⟩;by_cases h:rep J x=rep J y
 ·simp[h]
 ·have h2:((rep J x:Nat):Int)≠(rep J y:Nat):=by omega
  rw[bne_iff_ne.2 h2,bne_iff_ne.2 h]
def zm:List Nat:=[0,2,3,5,6,7,8]
def Ge:Sl:=ae Go.Proofs.Tryz.types Go.Proofs.Tryz.f179 zm []
theorem NT:aD Go.Proofs.Tryz.prog Go.Proofs.Tryz.f179 zm Ge 1=true:=by decide +kernel
theorem Re(l:List Int)(hl:l.length<=1048576)(hb:∀i,i<l.length->0<=l.getD i 0/\l.getD i 0<1048576):al Go.Proofs.Tryz.prog 179 [.v (ints l)] (.int .i64 (l.foldl (fun m k=>max m (k+1)) 0)):=by
 refine aA Go.Proofs.Tryz.func179 NT ?_;unfold Ge ae zm;simp only[go_sem];refine aI [3] (fun(i:Nat)=>[(2,.int .i64 ((l.take i).foldl (fun m k=>max m (k+1)) 0)),(6,.int .i64 i)]) (fun i=>i<=l.length) (fun i=>l.length-i) 0 (by simp only[go_sem];rfl) (Nat.zero_le _) rfl ?_;intro i hi;simp only[go_sem];refine⟨fun h=>⟨h,i+1,h,by omega,?_⟩,fun h=>?_⟩
 ·have:=hb i h
  rw[b9 h 0,List.foldl_append,aH h (by simp only[maxLen];omega),wrap_small (n:=l.getD i 0+1) (by omega) (by omega)];rfl
 ·rw[List.take_of_length_le (by omega)]
def yZ:List Nat:=[0,2,3,4,5,9,10,11]
def FU:Sl:=ae Go.Proofs.Tryz.types Go.Proofs.Tryz.f142 yZ []
theorem NB:aD Go.Proofs.Tryz.prog Go.Proofs.Tryz.f142 yZ FU 1=true:=by decide +kernel
theorem Q1(l:List Int)(hl:l.length<=1048576)(hb:∀i,i<l.length->0<=l.getD i 0/\l.getD i 0<l.length) :
  al Go.Proofs.Tryz.prog 142 [.v (ints l)] (ints ((List.range l.length).foldl (fun o x=>o.set (l.getD x 0).toNat (x:Int)) (List.replicate l.length 0))):=by
 have hlen:∀i,((List.range i).foldl (fun o x=>o.set (l.getD x 0).toNat (x:Int)) (List.replicate l.length 0)).length=l.length:=fun i=>by
  induction i with
  | zero=>simp
  | succ i ih=>rw[List.range_succ,List.foldl_append];show(List.set _ _ _).length=_;rw[List.length_set,ih]
 refine aA Go.Proofs.Tryz.func142 NB ?_;unfold FU ae yZ;simp only[go_sem];refine⟨⟨Nat.le_refl _,by omega⟩,?_⟩;refine aI [3,4] (fun(i:Nat)=>[(2,.o (ints ((List.range i).foldl (fun o x=>o.set (l.getD x 0).toNat (x:Int)) (List.replicate l.length 0)))),(7,.int .i64 i)]) (fun i=>i<=l.length) (fun i=>l.length-i) 0 (by simp only[go_sem];rfl) (Nat.zero_le _) rfl ?_;intro i hi;simp only[go_sem];simp only[hlen];refine⟨fun h=>⟨h,hb i h,by have:=hb i h;omega,i+1,h,by omega,?_⟩,fun h=>by rw[show i=l.length by omega]⟩;rw[List.range_succ,List.foldl_append,aH h (by simp only[maxLen];omega)];rfl
end Go.D3
namespace Go.D3
open Go
set_option maxHeartbeats 4000000
set_option maxRecDepth 100000
def eh:Nat->List Int->List (Int×Int)
 | _,[]=>[]
 | k,x::r=>(x,(k:Int))::eh (k+1) r
theorem vR:∀{k:Nat}{s:List Int},(eh k s).length=s.length
 | _,[]=>rfl
 | k,_::r=>by show(eh (k+1) r).length+1=_;rw[vR];rfl
theorem CG:∀{k:Nat}{s:List Int}{x:Int},eh k (s++[x])=eh k s++[(x,((k+s.length:Nat):Int))]
 | _,[],_=>rfl
 | k,y::r,x=>by
  show(y,(k:Int))::eh (k+1) (r++[x])=(y,(k:Int))::(eh (k+1) r++_);rw[CG,List.length_cons,show k+1+r.length=k+(r.length+1) by omega]
theorem vS:∀{k:Nat}{s:List Int}{x:Int},x ∉ s->dE (eh k s) x=none/\jL (eh k s) x=false
 | _,[],_,_=>⟨rfl,rfl⟩
 | k,y::r,x,h=>by
  have hxy:(x == y)=false:=beq_eq_false_iff_ne.2 fun e=>h (e▸List.mem_cons_self)
  obtain⟨h1,h2⟩:=vS (k:=k+1) (s:=r) (x:=x) fun hm=>h (List.mem_cons_of_mem _ hm)
  constructor
  ·show dE ((y,(k:Int))::eh (k+1) r) x=none
   unfold dE at h1|-
   rw[List.findIdx?_cons];simp only[hxy,h1,Option.map_none,Bool.false_eq_true,if_false]
  ·show jL ((y,(k:Int))::eh (k+1) r) x=false
   unfold jL at h2|-
   rw[List.any_cons,hxy,h2];rfl
theorem CF:∀{k:Nat}{s:List Int}{x z:Int},x∈s->iz (eh k s) x z=((k+s.findIdx (·== x):Nat):Int)/\jL (eh k s) x=true
 | k,y::r,x,z,h=>by
  by_cases e:x=y
  ·subst e
   constructor
   ·show iz ((x,(k:Int))::eh (k+1) r) x z=_
    unfold iz;rw[List.find?_cons,List.findIdx_cons];simp
   ·show jL ((x,(k:Int))::eh (k+1) r) x=true
    unfold jL;rw[List.any_cons];simp
  ·have hxy:(x == y)=false:=beq_eq_false_iff_ne.2 e
   have hyx:(y == x)=false:=beq_eq_false_iff_ne.2 (Ne.symm e);obtain⟨h1,h2⟩:=CF (k:=k+1) (s:=r) (x:=x) (z:=z) ((List.mem_cons.1 h).resolve_left e);constructor
   ·show iz ((y,(k:Int))::eh (k+1) r) x z=_
    unfold iz at h1|-
    rw[List.find?_cons,List.findIdx_cons];simp only[hxy,hyx,cond_false];rw[h1];omega
   ·show jL ((y,(k:Int))::eh (k+1) r) x=true
    unfold jL at h2|-
    rw[List.any_cons,hxy,h2];rfl
theorem KL{s:List Int}{x:Int}(h:x ∉ s):fD (eh 0 s) x (s.length:Int)=eh 0 (s++[x]):=by
 unfold fD;rw[(vS h).1,CG,Nat.zero_add]
theorem JI{p:List Int×List Int}{x:Int}(h:x∈p.1):iR p x=(p.1,p.2++[((p.1.findIdx (·== x):Nat):Int)]):=by
 have hl:p.1.findIdx (·== x)<p.1.length:=List.findIdx_lt_length_of_exists ⟨x,h,by simp⟩;unfold iR ix;rw[if_pos hl,if_neg (by omega)]
theorem JH{p:List Int×List Int}{x:Int}(h:x ∉ p.1):iR p x=(p.1++[x],p.2++[(p.1.length:Int)]):=by
 have hl:¬p.1.findIdx (·== x)<p.1.length:=fun hl=>by
  have:=List.findIdx_getElem (w:=hl);have e:p.1[p.1.findIdx (·== x)]=x:=by simpa using this
  exact h (e▸List.getElem_mem hl)
 unfold iR ix;rw[if_neg hl,if_pos (by omega)]
def mO(l:List Int)(i:Nat):List Int:=(dL (l.take i)).2++List.replicate (l.length-i) 0
theorem JF{l:List Int}{i:Nat}(h:i<=l.length):(mO l i).length=l.length:=by
 have:=(mN (L:=l) i h).len;unfold mO;rw[List.length_append,this,List.length_replicate];omega
theorem BK{l:List Int}{i:Nat}{v:Int}(h:i<l.length)(hs:(dL (l.take (i+1))).2=(dL (l.take i)).2++[v]):(mO l i).set i v=mO l (i+1):=by
 have:=(mN (L:=l) i (by omega)).len;unfold mO;rw[List.set_append_right _ _ (by omega),this,Nat.sub_self,hs,show l.length-i=(l.length-(i+1))+1 by omega,List.replicate_succ,List.set_cons_zero,List.append_assoc];rfl
def zk:List Nat:=[0,2,3,4,5,6,7,8,13,14,15]
def Gc:Sl:=ae Go.Proofs.Tryz.types Go.Proofs.Tryz.f209 zk []
theorem NR:aD Go.Proofs.Tryz.prog Go.Proofs.Tryz.f209 zk Gc 1=true:=by decide +kernel
theorem Rc(l:List Int)(hl:l.length<=1048576):al Go.Proofs.Tryz.prog 209 [.v (ints l)] (ints (dK l)):=by
 refine aA Go.Proofs.Tryz.func209 NR ?_;unfold Gc ae zk;simp only[go_sem];refine⟨⟨Nat.le_refl _,by omega⟩,?_⟩;refine aI [4,5,6,7] (fun(i:Nat)=>[(2,.o (bz (D.int .i64) (D.int .i64) (eh 0 (dL (l.take i)).1))),(3,.o (ints (mO l i))),(10,.int .i64 i)]) (fun i=>i<=l.length) (fun i=>l.length-i) 0 (by simp only[go_sem];rfl) (Nat.zero_le _) ?_ ?_
 ·simp only[go_sem];rfl
 intro i hi;simp only[go_sem];have hI:=mN (L:=l) i hi;have hsl:=hI.sle hi;have hcl:=JF hi;refine⟨fun h=>?_,fun h=>?_⟩
 ·have hw:=aH h (show l.length<=maxLen by simp only[maxLen];omega)
  have hs:dL (l.take (i+1))=iR (dL (l.take i)) (l.getD i 0):=by rw[b9 h 0,uU]
  by_cases hm:l.getD i 0∈(dL (l.take i)).1
  ·obtain⟨g1,g2⟩:=CF (k:=0) (z:=0) hm
   rw[g1,g2,Nat.zero_add];rw[JI hm] at hs;refine⟨h,fun h2=>by(cases h2),fun _=>⟨by omega,by omega,i+1,h,by omega,?_⟩⟩;rw[hw,BK h (by rw[hs]),hs]
  ·obtain⟨_,g2⟩:=vS (k:=0) hm
   rw[g2];rw[JH hm] at hs;refine⟨h,fun _=>⟨by rw[vR];simp only[maxLen];omega,by omega,by omega,i+1,h,by omega,?_⟩,fun h2=>by(cases h2)⟩;rw[hw,vR,BK h (by rw[hs]),KL hm,hs]
 ·have e:i=l.length:=by omega
  unfold mO dK;rw[e,Nat.sub_self,List.replicate_zero,List.append_nil,List.take_length]
noncomputable def fR(J:List Int)(i:Nat):List Int:=(List.range i).map fun x:Nat=>((rep J x:Nat):Int)
def gI(J:List Int)(i:Nat):List Int:=(List.range i).foldl (fun K x=>(dP (x+1) K x).2) J
theorem AS{J:List Int}(hU:UF J):∀i,i<=J.length->UF (gI J i)/\(gI J i).length=J.length/\∀u,u<J.length->rep (gI J i) u=rep J u
 | 0,_=>⟨hU,rfl,fun _ _=>rfl⟩
 | i+1,h=>by
  obtain⟨h1,h2,h3⟩:=AS hU i (by omega);have e:gI J (i+1)=(dP (i+1) (gI J i) i).2:=by unfold gI;rw[List.range_succ,List.foldl_append];rfl
  obtain⟨_,a2,a3,a4⟩:=nQ (i+1) h1 (show i<_ by omega) (Nat.lt_succ_self _);rw[e];exact⟨a2,a3.trans h2,fun u hu=>(a4 u (by omega)).trans (h3 u hu)⟩
theorem oZ{J:List Int}{i:Nat}:(fR J i).length=i:=by simp[fR]
theorem K0{J:List Int}{i x:Nat}(h:x<i):(fR J i).getD x 0=rep J x:=by
 unfold fR;rw[aX (by simpa using h)];simp
def zd:List Nat:=[0,2,3,4,9,10]
def F6:Sl:=ae Go.Proofs.Tryz.types Go.Proofs.Tryz.f178 zd [(2,208)]
theorem NL:aD Go.Proofs.Tryz.prog Go.Proofs.Tryz.f178 zd F6 1=true:=by decide +kernel
theorem Q6(J:List Int)(hU:UF J)(hl:J.length<=1048576):al Go.Proofs.Tryz.prog 178 [.io (.o (ints J)) (.o (ints (gI J J.length)))] (ints (dK (fR J J.length))):=by
 refine aA Go.Proofs.Tryz.func178 NL ?_;unfold F6 ae zd;simp only[go_sem];refine⟨⟨Nat.le_refl _,by omega⟩,?_⟩;refine aI [3] (fun(i:Nat)=>[(2,.o (ints (fR J i++List.replicate (J.length-i) 0))),(5,.int .i64 i),(6,.o (ints (gI J i)))]) (fun i=>i<=J.length) (fun i=>J.length-i) 0 (by simp only[go_sem];rfl) (Nat.zero_le _) rfl ?_;intro i hi;obtain⟨h1,h2,h3⟩:=AS hU i hi;simp only[go_sem];refine⟨fun h=>?_,fun h=>?_⟩
 ·refine vK (xD (gI J i) h1 (by omega) i (by omega)) rfl trivial rfl ?_
  rw[h3 i h];simp only[go_sem];have hlen:(fR J i++List.replicate (J.length-i) 0).length=J.length:=by rw[List.length_append,oZ,List.length_replicate];omega
  rw[hlen];have e:gI J (i+1)=(dP (i+1) (gI J i) i).2:=by unfold gI;rw[List.range_succ,List.foldl_append];rfl
  have e2:(fR J i++List.replicate (J.length-i) 0).set i (rep J i:Int)=fR J (i+1)++List.replicate (J.length-(i+1)) 0:=by
   rw[List.set_append_right _ _ (by rw[oZ];omega),oZ,Nat.sub_self,show J.length-i=(J.length-(i+1))+1 by omega,List.replicate_succ,List.set_cons_zero];unfold fR;rw[List.range_succ,List.map_append,List.append_assoc];rfl
  refine⟨h,h,i+1,h,by omega,?_⟩;rw[e2,e,aH h (by simp only[maxLen];omega)]
 ·have e:i=J.length:=by omega
  subst e;rw[Nat.sub_self,List.replicate_zero,List.append_nil];refine ak (Rc (fR J J.length) (by rw[oZ];exact hl)) rfl (.inl (bL _)) ?_;simp only[go_sem]
end Go.D3
namespace Go.D3
open Go
set_option maxHeartbeats 4000000
set_option maxRecDepth 100000
def rE(s:Sch)(o:List Pth):Prop:=s.nd.toNat<=o.length/\(∀j,s.nd.toNat<=j->j<o.length->(o.getD j Pth.zero).ed≠[])/\∀j,j<s.nd.toNat->(o.getD j Pth.zero).ed=[]
structure uw(s:Sch)(o:List Pth):Prop where
 a:dp s o
 nd:o.Nodup
 len:o.length<=400
 f:rE s o
def Iq(s:Sch)(rc:D)(gs:List D):Prop:=gs=[]/\∃l,rc=.o (.af l)/\((∃o,l=[U Pth.d Pth.zero o,.bc]/\uw s o)\/∃m,l=[U Pth.d Pth.zero [],.bk 181 (.agg [.str m])]/\¬s.fits)
def yY:List Nat:=[0,2,3,4,5,6,7,9,10,15,16,50,51,52]
def FT:Sl:=ae Go.Proofs.Tryz.types Go.Proofs.Tryz.f172 yY []
theorem NA:aD Go.Proofs.Tryz.prog Go.Proofs.Tryz.f172 yY FT 1=true:=by decide +kernel
theorem Q0(s:Sch)(hs:gi s):bV Go.Proofs.Tryz.prog 172 [.ptr s.cells] [] (Iq s):=by
 have h0:=hs.n0;have h8:=hs.n8;have hf:=hs.f8;have hto:=hs.to;refine nK .tree Go.Proofs.Tryz.func172 NA ?_;unfold FT ae yY;simp only[go_sem];refine aI [4] (fun(i:Nat)=>[(3,.o (U Pth.d Pth.zero (gU i))),(10,.int .i64 i)]) (fun i=>(i:Int)<=s.nd) (fun i=>s.nd.toNat-i) 0 (by simp only[go_sem];rfl) h0 rfl ?_;intro i hi;simp only[go_sem];refine⟨fun h=>?_,fun h=>?_⟩
 ·rw[nx]
  exact⟨by omega,i+1,by omega,by omega,by rw[aH (n:=9) (by omega) (by decide),Dr]⟩
 obtain rfl:i=s.nd.toNat:=by omega
 refine aI [6,7,8,11,12,13] (fun(p:Nat×List Pth)=>[(3,.o (U Pth.d Pth.zero p.2)),(5,.int .i64 p.1)]) (fun p=>p.1<=p.2.length/\p.2.length<=400/\eM s p.2 p.1/\ij p.2 p.1 0/\rE s p.2) (fun p=>400-p.1) (0,gU s.nd.toNat) (by simp only[go_sem];rfl) ⟨Nat.zero_le _,by rw[nx];omega,Ds hs,.zero,⟨by rw[nx];exact Nat.le_refl _,fun j h1 h2=>by rw[nx] at h2;omega,fun j hj=>by rw[aX (by rw[nx];exact hj)];simp[gU]⟩⟩ rfl ?_;clear hi h;rintro⟨i,o⟩ ⟨hi,hl,hI,hN,hF⟩;simp only at hi hl hI hN hF;simp only[go_sem];refine⟨fun h=>⟨h,h,fun h6=>?_,fun h6=>⟨h,h,?_⟩⟩,fun h=>?_⟩
 ·exact⟨(i+1,o),⟨h,hl,hI.fZ (by omega),hN.mono (.inl (Nat.lt_succ_self _)),hF⟩,by show 400-(i+1)<400-i;omega,by rw[aH h (by simp only[maxLen];omega)]⟩
 ·obtain⟨y,hy⟩:=hI.at' h
  have hp6:=(bw.1 hy).2.1;rw[beq_eq_false_iff_ne] at h6;generalize hP:o.getD i Pth.zero=P at hy hp6 h6;have hP6:P.ed.length<6:=by omega
  have hend:=mc s P hto h0;rw[hy] at hend;simp only[gN] at hend;refine ak hend rfl (.inl rfl) ?_;simp only[go_sem]
  refine aI [7,8] (fun(p:Nat×List Pth)=>[(3,.o (U Pth.d Pth.zero p.2)),(13,.int .i64 p.1)]) (fun p=>p.1<=s.fr.length/\o.length<=p.2.length/\p.2.length<=400/\eM s p.2 i/\ij p.2 i p.1/\rE s p.2/\p.2.getD i Pth.zero=P /\
   ∀e:Nat,e<p.1->s.aF P=some (s.fr.getD e 0)->(⟨P.st,P.ed++[(e:Int)]⟩:Pth)∈p.2) (fun p=>s.fr.length-p.1) (0,o) (by simp only[go_sem];rfl) ⟨Nat.zero_le _,Nat.le_refl _,hl,hI,hN,hF,hP,fun e he=>absurd he (Nat.not_lt_zero _)⟩ rfl ?_
  rintro⟨k,q⟩ ⟨hk,hq1,hq2,hqI,hqN,hqF,hqP,hqc⟩;simp only at hk hq1 hq2 hqI hqN hqF hqP hqc;simp only[go_sem];refine⟨fun h2=>⟨h2,fun h3=>?_,fun h3=>?_⟩,fun h2=>?_⟩
  ·rw[bne_iff_ne] at h3
   refine⟨(k+1,q),⟨h2,hq1,hq2,hqI,hqN.mono (.inr ⟨rfl,Nat.le_succ k⟩),hqF,hqP,fun e he hE=>?_⟩,by show s.fr.length-(k+1)<s.fr.length-k;omega,by rw[aH h2 (by simp only[maxLen];omega)]⟩;by_cases hek:e=k
   ·subst hek
    rw[hy] at hE;injection hE with hE
    exact absurd hE.symm h3
   ·exact hqc e (by simp only at he;omega) hE
  ·rw[bne_eq_false_iff_eq] at h3
   have hE:=mT (p:=P) (e:=k) (by rw[h3];exact hy) h2 hP6;have hadd:=hqI.add (by omega) hE;have hadN:=hqN.add (k:=k) (show i<q.length by omega);rw[hqP] at hadN;have hlen:(q++[(⟨P.st,P.ed++[(k:Int)]⟩:Pth)]).length=q.length+1:=by rw[List.length_append];rfl
   have hget:(q++[(⟨P.st,P.ed++[(k:Int)]⟩:Pth)]).getD i Pth.zero=P:=by rw[fI (by omega),if_neg (by omega),hqP]
   have hcc:∀e:Nat,e<k+1->s.aF P=some (s.fr.getD e 0)->(⟨P.st,P.ed++[(e:Int)]⟩:Pth)∈q++[(⟨P.st,P.ed++[(k:Int)]⟩:Pth)]:=fun e he hE=>by
    by_cases hek:e=k
    ·subst hek;simp
    ·exact List.mem_append_left _ (hqc e (by omega) hE)
   have hFF:rE s (q++[(⟨P.st,P.ed++[(k:Int)]⟩:Pth)]):=by
    refine⟨by rw[hlen];exact Nat.le_succ_of_le hqF.1,fun j h5 h6=>?_,fun j h5=>by have:=hqF.1;rw[fI (by omega),if_neg (by omega)];exact hqF.2.2 j h5⟩;rw[fI (by rw[hlen] at h6;omega)];split
    ·simp
    ·rw[hlen] at h6;exact hqF.2.1 j h5 (by omega)
   have hw:=aH h2 (show s.fr.length<=maxLen by simp only[maxLen];omega);refine⟨fun h7=>?_,fun h7=>?_⟩
   ·exact⟨_,_,⟨rfl,_,rfl,.inr ⟨_,rfl,Dv hadN.nd hadd.v (by rw[hlen];omega)⟩⟩,rfl,rfl,trivial⟩
   ·rw[hqP]
    rw[beq_eq_false_iff_ne] at h7
    with_reducible (repeat' apply And.intro)
    all_goals(try(show i<q.length;omega))
    all_goals(
     try rw[hqP]
     refine ak (jl P.ed (by omega)) rfl (.inl (bL _)) ?_;simp only[go_sem,hqP]
     with_reducible (repeat' apply And.intro)
     all_goals(first
      | exact⟨(k+1,_),⟨h2,by rw[hlen];omega,by rw[hlen];omega,hadd,hadN,hFF,hget,hcc⟩,by simp only;omega,by rw[hw]⟩
      | omega))
  ·exact⟨(i+1,q),⟨by show i+1<=q.length;omega,hq2,hqI.next fun e he hE=>by rw[hqP] at hE|-;exact hqc e (by omega) hE,hqN.mono (.inl (Nat.lt_succ_self _)),hqF⟩,by show 400-(i+1)<400-i;omega,by rw[aH h (by simp only[maxLen];omega)]⟩
 ·exact⟨_,_,⟨rfl,_,rfl,.inl ⟨o,rfl,hI.done (by omega),hN.nd,hl,hF⟩⟩,rfl,rfl,trivial⟩
end Go.D3
namespace Go.D3
open Go
set_option maxHeartbeats 4000000
set_option maxRecDepth 100000
@[go_sem] theorem U7{α β:Type}{f:α->D}{g:β->D}{l:List (α×β)}{ob:Nat->D}:mapOf ob (bz f g l)=some (mK f l,mV g l):=rfl
abbrev j5(list:List Pth):D:=bz D.str (D.int .i64) (ow list list.length)
abbrev H0(list:List Pth)(w:Nat)(p:Pth)(X Y:D)(J:List Int):List D:=[.box [.o (ints J)],.box [.int .i64 w],.box [.o (.ptr [j5 list,X,Y])],.box p.cells]
abbrev TR:List D:=[.ay 0 [(0,0)],.ay 1 [(0,0)],.ay 2 [(0,0)],.ay 3 [(0,0)]]
def yV:List Nat:=[0,1,2,3,4]
def FP:Sl:=ae Go.Proofs.Tryz.types Go.Proofs.Tryz.f176 yV [(2,177)]
theorem Nx:aD Go.Proofs.Tryz.prog Go.Proofs.Tryz.f176 yV FP 5=true:=by decide +kernel
theorem Ru(X Y:D)(s:Sch)(hs:gi s)(list:List Pth)(hv:∀p∈list,s.sp p)(hn:list.Nodup)(hl:list.length<=400)(J:List Int)(hU:UF J)(hJ:J.length=list.length)(w y:Nat)(p:Pth)(ed:List Int)(hw:w<list.length)(hy:y<list.length)(hq:list.getD y Pth.zero=⟨p.st,ed⟩) :
  iM Go.Proofs.Tryz.prog 176 [.sub 4 [],.ay 0 [(0,0)],.ay 1 [(0,0)],.ay 2 [(0,0)],.ay 3 [(0,0)]] [.box [.o (ints J)],.box [.int .i64 w],.box [.o (.ptr [j5 list,X,Y])],.box p.cells,.o (ints ed)] (.o (.af []))
   [.box [.o (ints (ku J w y))],.box [.int .i64 w],.box [.o (.ptr [j5 list,X,Y])],.box p.cells,.o (ints ed)]:=by
 refine EB .tree Go.Proofs.Tryz.func176 Nx ?_;unfold FP ae yV;simp only[go_sem];have hsp:s.sp ⟨p.st,ed⟩:=hq▸hv _ (cR hy);have h6:ed.length<=6:=by obtain⟨z,hz⟩:=hsp;exact(bw.1 hz).2.1
 refine ak (xE p.st ed (rl hs hsp) (by omega)) rfl (.inl rfl) ?_;simp only[go_sem];obtain⟨y',hy',e1,e2⟩:=Bd hs hv hn (p:=⟨p.st,ed⟩) (hq▸cR hy);obtain rfl:y'=y:=getD_inj hn hy' hy (e1.trans hq.symm);rw[e2];refine fc (Q5 J hU (by omega) w y' (by omega) (by omega)) trivial ?_;simp only[go_sem];exact⟨_,_,rfl,rfl,rfl,rfl,rfl⟩
def Ih(X Y:D)(s:Sch)(list:List Pth)(w i:Nat)(W:Pth)(rc:D)(gs:List D):Prop:=∃J,rc=.o (.af [])/\gs=H0 list w W X Y J/\cV s list J w i (W.ed.length+1)
def yR:List Nat:=[0,1,2,3,4,6,7,8,10,11,12,13]
def FL:Sl:=ae Go.Proofs.Tryz.types Go.Proofs.Tryz.f175 yR []
theorem Nt:aD Go.Proofs.Tryz.prog Go.Proofs.Tryz.f175 yR FL 5=true:=by decide +kernel
theorem QW(s:Sch)(h:s.ok=true)(list:List Pth)(hA:dp s list)(hv:∀p∈list,s.sp p)(hn:list.Nodup)(hl:list.length<=400)(J:List Int)(w i:Nat)(hw:w<list.length)(hi:i<s.lf.length)(hJ:cV s list J w i 0)(X Y:D) :
  bV Go.Proofs.Tryz.prog 175 [.ptr s.cells,(list.getD w Pth.zero).d,(s.lf.getD i Pth.zero).d,(s.rt.getD i Pth.zero).d,(.fn 176 TR)] (H0 list w (list.getD w Pth.zero) X Y J) (Ih X Y s list w i (list.getD w Pth.zero)):=by
 obtain⟨hk1,hlf,hrt⟩:=fg h;have hs:=ga hk1;have hto:=hs.to;obtain⟨y,hy⟩:=hA.at' hw;have hw6:=(bw.1 hy).2.1;obtain⟨z,hp,hq,aG⟩:=ok_eq h hi;have hp6:=(bw.1 hp).2.1;have hq6:=(bw.1 hq).2.1;generalize hW:list.getD w Pth.zero=W at hy hw6;generalize hLp:s.lf.getD i Pth.zero=p at hp aG hp6;generalize hRq:s.rt.getD i Pth.zero=q at hq aG hq6;refine nK .tree Go.Proofs.Tryz.func175 Nt ?_;unfold FL ae yR;simp only[go_sem];refine aI [10,11] (fun(p:Nat×Int×List Int)=>[(8,.int .i64 p.2.1),(9,.int .i64 p.1),(12,.box [.o (ints p.2.2)])]) (fun p=>p.1<=W.ed.length+1/\cV s list p.2.2 w i p.1/\(p.1<=W.ed.length->bp s.fr s.to W.st (W.ed.take p.1)=some p.2.1)) (fun p=>W.ed.length+1-p.1) (0,W.st,J) (by simp only[go_sem];rfl) ⟨Nat.zero_le _,hJ,fun _=>rfl⟩ rfl ?_;rintro⟨a,m,K⟩ ⟨ha,hK,hm⟩;simp only at ha hK hm;simp only[go_sem];have hwr:IntKind.i64.wrap ((a:Int)+(p.ed.length:Int))=((a+p.ed.length:Nat):Int):=by rw[wrap_small (by omega) (by omega)];omega
 simp only[hwr,Int.toNat_natCast];refine⟨fun hal=>⟨fun h1=>?_,bO (fun _=>Rf _ _ (by rw[List.length_drop,List.length_take];omega) (by omega)) rfl (fun h=>h) (.inl rfl) ?_⟩,fun hal=>⟨_,_,⟨K,rfl,rfl,by rw[show W.ed.length+1=a by omega];exact hK⟩,rfl,rfl,rfl,rfl,rfl,rfl,trivial⟩⟩
 ·simp only[Bool.and_eq_true,decide_eq_true_eq] at h1
  exact⟨by simp only[Bool.and_eq_true,decide_eq_true_eq];exact h1,by omega,h1.2⟩
 have hw7:IntKind.i64.wrap ((a:Int)+1)=((a+1:Nat):Int):=aH (n:=9) (by omega) (by decide)
 have hmid:∀_:a<W.ed.length,bp s.fr s.to W.st (W.ed.take (a+1))=some (s.to.getD (W.ed.getD a 0).toNat 0):=fun h5=>by
  have:=kf hy (i:=a+1) (by omega);rw[if_neg (by omega),Nat.add_sub_cancel] at this;exact this
 have hrg:∀_:a<W.ed.length,0<=W.ed.getD a 0/\W.ed.getD a 0<(s.to.length:Int):=fun h5=>by
  have:=(oR (bw.1 hy).2.2).2 a h5;exact⟨this.1,by omega⟩
 simp only[go_sem];refine⟨fun h1=>?_,fun h1=>?_⟩
 ·simp only[Bool.and_eq_true,decide_eq_true_eq,beq_iff_eq] at h1
  obtain⟨⟨e1,e0⟩,e2⟩:=h1;have htl:(W.ed.take a).length<=6:=by rw[List.length_take];omega
  have hll:(W.ed.take a++q.ed++W.ed.drop (a+p.ed.length)).length=W.ed.length-p.ed.length+q.ed.length:=by
   rw[List.length_append,List.length_append,List.length_take,List.length_drop];omega
  with_reducible (repeat' apply And.intro)
  all_goals(try omega)
  all_goals(
   refine ak (jl (W.ed.take a) (by omega)) rfl (.inl (bL _)) ?_;simp only[go_sem];simp only[List.take_length,List.length_map]
   with_reducible (repeat' apply And.intro)
   all_goals(first
    | exact nS _
    | omega
    | (simp only[List.length_append,List.length_take,List.length_drop];omega)
    | skip))
  all_goals(intro h8)
  all_goals(first
   | (have hK1:cV s list K w i (a+1):=hK.skip fun q' hlk=>by
       unfold Sch.ff at hlk;rw[hW,hLp,hRq] at hlk;obtain⟨_,_,_,_,g3,_⟩:=hlk;rw[hll] at h8;omega
      exact⟨fun h5=>⟨h5,hrg h5,(a+1,s.to.getD (W.ed.getD a 0).toNat 0,K),⟨by simp only;omega,hK1,fun _=>hmid h5⟩,by simp only;omega,by rw[hw7]⟩,fun h5=>⟨(a+1,m,K),⟨by simp only;omega,hK1,fun h6=>by simp only at h6;omega⟩,by simp only;omega,by rw[hw7]⟩⟩)
   | (have hlen6:W.ed.length-p.ed.length+q.ed.length<=6:=by rw[hll] at h8;omega
      have hsw:=rZ hy hp hq aG e0 (hm hal) e1 e2 (by omega);obtain⟨j,hj,hjq⟩:=dZ (d:=Pth.zero) (hA.a _ _ hsw);have hlk:s.ff (list.getD w Pth.zero) i a (list.getD j Pth.zero):=by unfold Sch.ff;rw[hW,hLp,hRq,hjq];exact⟨hi,e0,by rw[hm hal,e1],e2,hlen6,rfl⟩
      obtain⟨u1,u2,u3⟩:=KP hK.uf (show w<K.length by rw[hK.len];exact hw) (show j<K.length by rw[hK.len];exact hj);have hK1:=hK.add hw hj (hv _ (cR hw)) hlk u1 u2 u3;refine Ci [12,13,14,15,11] false (Ru X Y s hs list hv hn hl K hK.uf hK.len w j W _ hw hj hjq) ?_;simp only[go_sem]
      exact⟨fun h5=>⟨h5,hrg h5,(a+1,s.to.getD (W.ed.getD a 0).toNat 0,ku K w j),⟨by simp only;omega,hK1,fun _=>hmid h5⟩,by simp only;omega,by rw[hw7]⟩,fun h5=>⟨(a+1,m,ku K w j),⟨by simp only;omega,hK1,fun h6=>by simp only at h6;omega⟩,by simp only;omega,by rw[hw7]⟩⟩))
 ·have hK1:cV s list K w i (a+1):=hK.skip fun q' hlk=>by
   unfold Sch.ff at hlk;rw[hW,hLp,hRq,hm hal] at hlk;obtain⟨_,g0,g1,g2,_⟩:=hlk;injection g1 with g1
   simp only[Bool.and_eq_false_iff,decide_eq_false_iff_not,beq_eq_false_iff_ne] at h1;rcases h1 with(h1 | h1) | h1
   ·exact h1 g1
   ·exact h1 g0
   ·exact h1 g2
  exact⟨fun h5=>⟨h5,hrg h5,(a+1,s.to.getD (W.ed.getD a 0).toNat 0,K),⟨by simp only;omega,hK1,fun _=>hmid h5⟩,by simp only;omega,by rw[hw7]⟩,fun h5=>⟨(a+1,m,K),⟨by simp only;omega,hK1,fun h6=>by simp only at h6;omega⟩,by simp only;omega,by rw[hw7]⟩⟩
end Go.D3
