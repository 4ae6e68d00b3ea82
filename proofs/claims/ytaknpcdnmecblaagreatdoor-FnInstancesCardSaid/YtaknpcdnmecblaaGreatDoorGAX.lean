/- PLAIN LAWS: relations that are closed; tables of monoids. -/
import Derived.Test.YtaknpcdnmecblaaGreatDoorGAA
namespace Go.D3
open Go
section
variable{α β:Type}
theorem fF{l m:List α}{i:Nat}{d:α}(h:i<l.length):(l++m).getD i d=l.getD i d:=by
 rw[List.getD_eq_getElem?_getD,List.getElem?_append_left h,<-List.getD_eq_getElem?_getD]
theorem fS{l m:List α}{i:Nat}{d:α}(h:l.length<=i):(l++m).getD i d=m.getD (i-l.length) d:=by
 rw[List.getD_eq_getElem?_getD,List.getElem?_append_right h,<-List.getD_eq_getElem?_getD]
theorem kF{f:α->β}{l:List α}{i:Nat}{d:β}(e:α)(h:i<l.length):(l.map f).getD i d=f (l.getD i e):=by
 rw[List.getD_eq_getElem?_getD,List.getElem?_map,List.getElem?_eq_getElem h,aM h];rfl
theorem dT{f:Nat->β}{n i:Nat}{d:β}(h:i<n):((List.range n).map f).getD i d=f i:=by
 rw[List.getD_eq_getElem?_getD,List.getElem?_map,List.getElem?_range h];rfl
theorem mN{n i:Nat}{x d:α}(h:i<n):(List.replicate n x).getD i d=x:=by
 rw[List.getD_eq_getElem?_getD,List.getElem?_replicate,if_pos h];rfl
end
def af.lB(c:af)(f g:Nat):Prop:=(c.to.getD f 0≠c.fr.getD g 0->c.cell f g=-1) /\
 (c.to.getD f 0=c.fr.getD g 0->∃h:Nat,c.cell f g=h/\h<c.fr.length/\c.fr.getD h 0=c.fr.getD f 0/\c.to.getD h 0=c.to.getD g 0)
structure af.Wf(c:af):Prop where
 cZ : 0<=c.ob
 gp:∀f,f<c.fr.length->0<=c.fr.getD f 0/\c.fr.getD f 0<c.ob
 bQ:c.to.length=c.fr.length
 gE:∀f,f<c.fr.length->0<=c.to.getD f 0/\c.to.getD f 0<c.ob
 eu:c.co.length=c.fr.length
 cP:(c.an.length:Int)=c.ob
 jT:∀x,x<c.an.length->∃h:Nat,c.an.getD x 0=h/\h<c.fr.length/\c.fr.getD h 0=x/\c.to.getD h 0=x
 row:∀f,f<c.fr.length->(c.co.getD f []).length=c.fr.length
 kx:∀f g,f<c.fr.length->g<c.fr.length->c.lB f g
theorem zG{n:Int}{l:List Int}(h:∀i,i<l.length->0<=l.getD i 0/\l.getD i 0<n):bI n l=true:=HA.2 fun y I=>by
 obtain⟨i,hi,rfl⟩:=List.getElem_of_mem I;have:=h i hi
 rwa [aM hi] at this
theorem af.Wf.shape{c:af}(h:c.Wf)(Z:c.ob<=8)(S:c.fr.length<=40):c.Shape:=by
 refine⟨⟨h.cZ,Z,S,zG h.gp,h.bQ,zG fun i hi=>h.gE i (by rw[<-h.bQ];exact hi),h.eu,h.cP,zG fun i hi=>?_⟩,fun x hx=>?_,h.row,fun f g hf hg=>?_⟩
 ·obtain⟨k,I,Y,_⟩:=h.jT i hi
  omega
 ·obtain⟨k,I,Y,V,W⟩:=h.jT x hx
  unfold af.jS;rw[I,Int.toNat_natCast,V,W];simp
 ·obtain⟨a,b⟩:=h.kx f g hf hg
  unfold af.gL;by_cases e:c.to.getD f 0=c.fr.getD g 0
  ·obtain⟨k,I,Y,V,W⟩:=b e
   rw[if_neg (by rw[e,bne_self_eq_false];exact Bool.noConfusion),I,Int.toNat_natCast,V,W];simp only[beq_self_eq_true,Bool.and_true,Bool.and_eq_true,decide_eq_true_eq];omega
  ·rw[if_pos (by simpa using e),a e];rfl
def mh(m h:Int):Int:=if 0<=h then h+m else h
def aS(c d:af):af where
 ob:=c.ob+d.ob
 fr:=c.fr++d.fr.map (·+c.ob)
 to:=c.to++d.to.map (·+c.ob)
 an:=c.an++d.an.map (·+(c.fr.length:Int))
 co:=c.co.map (·++List.replicate d.fr.length (-1))++(List.range d.fr.length).map fun f=>List.replicate c.fr.length (-1)++(List.range d.fr.length).map fun g=>mh c.fr.length (d.cell f g)
theorem BO{c d:af}(V:c.Wf)(hd:d.Wf):(aS c d).Wf:=by
 have ad:(aS c d).fr.length=c.fr.length+d.fr.length:=by simp[aS]
 have ag:=V.bQ;have ao:=hd.bQ;have Y:∀{f},f<c.fr.length->(aS c d).fr.getD f 0=c.fr.getD f 0:=fun h=>fF h
 have bQ:∀{f},f<c.fr.length->(aS c d).to.getD f 0=c.to.getD f 0:=fun h=>fF (by rw[ag];exact h)
 have W:∀{f},f<d.fr.length->(aS c d).fr.getD (c.fr.length+f) 0=d.fr.getD f 0+c.ob:=fun {f} h=>by
  show(c.fr++d.fr.map (·+c.ob)).getD _ 0=_;rw[fS (Nat.le_add_right _ _),Nat.add_sub_cancel_left,kF 0 h]
 have ie:∀{f},f<d.fr.length->(aS c d).to.getD (c.fr.length+f) 0=d.to.getD f 0+c.ob:=fun {f} h=>by
  show(c.to++d.to.map (·+c.ob)).getD _ 0=_;rw[fS (by omega),ag,Nat.add_sub_cancel_left,kF 0 (by omega)]
 have fv:∀{f},f<c.fr.length->(aS c d).co.getD f []=c.co.getD f []++List.replicate d.fr.length (-1):=fun {f} h=>by
  show(_++_:List (List Int)).getD f []=_;rw[fF (by rw[List.length_map,V.eu];exact h),kF [] (by rw[V.eu];exact h)]
 have ab:∀{f},f<d.fr.length->(aS c d).co.getD (c.fr.length+f) []=List.replicate c.fr.length (-1)++(List.range d.fr.length).map fun g=>mh c.fr.length (d.cell f g):=fun {f} h=>by
  show(_++_:List (List Int)).getD _ []=_;rw[fS (by rw[List.length_map,V.eu];omega),List.length_map,V.eu,Nat.add_sub_cancel_left,dT h]
 have split:∀{f},f<c.fr.length+d.fr.length->f<c.fr.length\/∃k,f=c.fr.length+k/\k<d.fr.length:=fun {f} h=>by
  by_cases h1:f<c.fr.length
  ·exact .inl h1
  ·exact .inr ⟨f-c.fr.length,by omega,by omega⟩
 have ax:=V.cZ;have a1:=hd.cZ;refine⟨by show 0<=c.ob+d.ob;omega,fun f Z=>?_,by simp[aS,ag,ao],fun f Z=>?_,by simp[aS,V.eu],?_,fun x hx=>?_,fun f Z=>?_,fun f g Z hg=>?_⟩
 ·rw[ad] at Z
  show _/\_<c.ob+d.ob;rcases split Z with h | ⟨k,rfl,h⟩
  ·rw[Y h];have:=V.gp f h;omega
  ·rw[W h];have:=hd.gp k h;omega
 ·rw[ad] at Z
  show _/\_<c.ob+d.ob;rcases split Z with h | ⟨k,rfl,h⟩
  ·rw[bQ h];have:=V.gE f h;omega
  ·rw[ie h];have:=hd.gE k h;omega
 ·show((c.an++d.an.map _).length:Int)=c.ob+d.ob
  rw[List.length_append,List.length_map];have:=V.cP;have:=hd.cP;omega
 ·have hx:x<c.an.length+d.an.length:=by simpa[aS] using hx
  have e1:=V.cP;by_cases h:x<c.an.length
  ·obtain⟨k,k1,k2,k3,k4⟩:=V.jT x h
   refine⟨k,?_,by omega,by rw[Y k2];exact k3,by rw[bQ k2];exact k4⟩;show(c.an++d.an.map _).getD x 0=_;rw[fF h];exact k1
  ·obtain⟨k,k1,k2,k3,k4⟩:=hd.jT (x-c.an.length) (by omega)
   refine⟨c.fr.length+k,?_,by omega,by rw[W k2,k3];omega,by rw[ie k2,k4];omega⟩;show(c.an++d.an.map _).getD x 0=_;rw[fS (by omega),kF 0 (by omega),k1];omega
 ·rw[ad] at Z|-
  rcases split Z with h | ⟨k,rfl,h⟩
  ·rw[fv h,List.length_append,List.length_replicate,V.row f h]
  ·rw[ab h,List.length_append,List.length_replicate,List.length_map,List.length_range]
 ·rw[ad] at Z hg
  have ne:∀{f g},f<c.fr.length->g<d.fr.length->c.to.getD f 0≠d.fr.getD g 0+c.ob:=fun {f g} h1 S=>by
   have:=V.gE f h1;have:=hd.gp g S;omega
  have ne':∀{f g},f<d.fr.length->g<c.fr.length->d.to.getD f 0+c.ob≠c.fr.getD g 0:=fun {f g} h1 S=>by
   have:=hd.gE f h1;have:=V.gp g S;omega
  rcases split Z with h1 | ⟨k,rfl,h1⟩<;>rcases split hg with S | ⟨j,rfl,S⟩
  ·obtain⟨a,b⟩:=V.kx f g h1 S
   have I:(aS c d).cell f g=c.cell f g:=by
    unfold af.cell;rw[fv h1,fF (by rw[V.row f h1];exact S)]
   unfold af.lB;rw[I,bQ h1,Y S];refine⟨a,fun e=>?_⟩;obtain⟨k,k1,k2,k3,k4⟩:=b e;exact⟨k,k1,by omega,by rw[Y k2,Y h1];exact k3,by rw[bQ k2,bQ S];exact k4⟩
  ·have I:(aS c d).cell f (c.fr.length+j)=-1:=by
    unfold af.cell;rw[fv h1,fS (by rw[V.row f h1];omega),mN (by rw[V.row f h1];omega)]
   unfold af.lB;rw[I,bQ h1,W S];exact⟨fun _=>rfl,fun e=>absurd e (ne h1 S)⟩
  ·have I:(aS c d).cell (c.fr.length+k) g=-1:=by
    unfold af.cell;rw[ab h1,fF (by rw[List.length_replicate];exact S),mN S]
   unfold af.lB;rw[I,ie h1,Y S];exact⟨fun _=>rfl,fun e=>absurd e (ne' h1 S)⟩
  ·obtain⟨a,b⟩:=hd.kx k j h1 S
   have I:(aS c d).cell (c.fr.length+k) (c.fr.length+j)=mh c.fr.length (d.cell k j):=by
    unfold af.cell;rw[ab h1,fS (by rw[List.length_replicate];omega),List.length_replicate,Nat.add_sub_cancel_left,dT S];rfl
   unfold af.lB;rw[I,ie h1,W S];refine⟨fun e=>?_,fun e=>?_⟩
   ·rw[a (fun h=>e (by rw[h]))];rfl
   ·obtain⟨i,i1,i2,i3,i4⟩:=b (by omega)
    refine⟨c.fr.length+i,?_,by omega,by rw[W i2,W h1,i3],by rw[ie i2,ie S,i4]⟩;rw[i1];unfold mh;rw[if_pos (by omega)];omega
def tZ(c:af):af where
 ob:=c.ob
 fr:=c.to
 to:=c.fr
 an:=c.an
 co:=(List.range c.fr.length).map fun f=>(List.range c.fr.length).map fun g=>c.cell g f
theorem Wi{c:af}(V:c.Wf):(tZ c).Wf:=by
 have I:=V.bQ
 have cl:∀{f g},f<c.fr.length->g<c.fr.length->(tZ c).cell f g=c.cell g f:=fun h1 h2=>by
  show(((List.range c.fr.length).map fun f=>(List.range c.fr.length).map fun g=>c.cell g f).getD _ []).getD _ 0=_;rw[dT h1,dT h2]
 refine⟨V.cZ,fun f S=>V.gE f (by rw[<-I];exact S),I.symm,fun f S=>V.gp f (by rw[<-I];exact S),by simp[tZ,I],V.cP,fun x hx=>?_,fun f S=>?_,fun f g S hg=>?_⟩
 ·obtain⟨k,W,k2,Y,Z⟩:=V.jT x hx
  exact⟨k,W,by show k<c.to.length;omega,Z,Y⟩
 ·have S:f<c.fr.length:=by rw[<-I];exact S
  show(((List.range c.fr.length).map fun f=>(List.range c.fr.length).map fun g=>c.cell g f).getD f []).length=c.to.length;rw[dT S,List.length_map,List.length_range,I]
 ·have S:f<c.fr.length:=by rw[<-I];exact S
  have hg:g<c.fr.length:=by rw[<-I];exact hg
  obtain⟨a,b⟩:=V.kx g f hg S;unfold af.lB;rw[cl S hg];refine⟨fun e=>a fun e'=>e e'.symm,fun e=>?_⟩;obtain⟨k,W,k2,Y,Z⟩:=b e.symm;exact⟨k,W,by show k<c.to.length;omega,Z,Y⟩
def gX(c d:af):af where
 ob:=c.ob*d.ob
 fr:=(List.range (c.fr.length*d.fr.length)).map fun i=>c.fr.getD (i / d.fr.length) 0*d.ob+d.fr.getD (i % d.fr.length) 0
 to:=(List.range (c.fr.length*d.fr.length)).map fun i=>c.to.getD (i / d.fr.length) 0*d.ob+d.to.getD (i % d.fr.length) 0
 an:=(List.range (c.an.length*d.an.length)).map fun i=>c.an.getD (i / d.an.length) 0*d.fr.length+d.an.getD (i % d.an.length) 0
 co:=(List.range (c.fr.length*d.fr.length)).map fun i=>(List.range (c.fr.length*d.fr.length)).map fun j =>
  if 0<=c.cell (i / d.fr.length) (j / d.fr.length)/\0<=d.cell (i % d.fr.length) (j % d.fr.length) then c.cell (i / d.fr.length) (j / d.fr.length)*d.fr.length+d.cell (i % d.fr.length) (j % d.fr.length) else -1
theorem AI{a b m n:Nat}(I:a<m)(S:b<n):a*n+b<m*n:=by
 have h:(a+1)*n<=m*n:=Nat.mul_le_mul_right n I;rw[Nat.add_mul,Nat.one_mul] at h;omega
theorem WT{a b I b' n:Int}(V : 0<=b)(h1:b<n)(W : 0<=b')(Y:b'<n)(h:a*n+b=I*n+b'):a=I/\b=b':=by
 have e:(a-I)*n=b'-b:=by rw[Int.sub_mul];omega
 have:a=I:=by
  rcases Int.lt_trichotomy (a-I) 0 with S | S | S
  ·have:(a-I)*n<=(-1)*n:=Int.mul_le_mul_of_nonneg_right (by omega) (by omega)
   omega
  ·omega
  ·have : 1*n<=(a-I)*n:=Int.mul_le_mul_of_nonneg_right (by omega) (by omega)
   omega
 subst this;exact⟨rfl,by omega⟩
theorem WY{c d:af}(hc:c.Wf)(hd:d.Wf):(gX c d).Wf:=by
 have V:(gX c d).fr.length=c.fr.length*d.fr.length:=by simp[gX]
 have cZ:=hc.cZ;have ad:=hd.cZ
 have sp:∀{m n i:Nat},i<m*n->i / n<m/\i % n<n:=fun {m n i} h=>by
  have hn : 0<n:=by
   rcases Nat.eq_zero_or_pos n with rfl | h'
   ·rw[Nat.mul_zero] at h;omega
   ·exact h'
  exact⟨Nat.div_lt_of_lt_mul (by rw[Nat.mul_comm];exact h),Nat.mod_lt _ hn⟩
 have W:∀{i},i<c.fr.length*d.fr.length->(gX c d).fr.getD i 0=c.fr.getD (i / d.fr.length) 0*d.ob+d.fr.getD (i % d.fr.length) 0:=fun h=>dT h
 have Y:∀{i},i<c.fr.length*d.fr.length->(gX c d).to.getD i 0=c.to.getD (i / d.fr.length) 0*d.ob+d.to.getD (i % d.fr.length) 0:=fun h=>dT h
 have inr:∀{a b:Int},0<=a/\a<c.ob->0<=b/\b<d.ob->0<=a*d.ob+b/\a*d.ob+b<c.ob*d.ob:=fun {a b} h1 Z=>by
  have e1 : 0<=a*d.ob:=Int.mul_nonneg h1.1 ad;have e2:(a+1)*d.ob<=c.ob*d.ob:=Int.mul_le_mul_of_nonneg_right (by omega) ad;rw[Int.add_mul,Int.one_mul] at e2;omega
 have back:∀{a b:Nat},a<c.fr.length->b<d.fr.length->(a*d.fr.length+b) / d.fr.length=a/\(a*d.fr.length+b) % d.fr.length=b:=fun {a b} h1 Z=>by
  have hn : 0<d.fr.length:=by omega
  exact⟨by rw[Nat.mul_comm,Nat.mul_add_div hn,Nat.div_eq_of_lt Z,Nat.add_zero],by rw[Nat.mul_comm,Nat.mul_add_mod,Nat.mod_eq_of_lt Z]⟩
 refine⟨Int.mul_nonneg cZ ad,fun f I=>?_,by simp[gX],fun f I=>?_,by simp[gX],?_,fun x hx=>?_,fun f I=>?_,fun f g I hg=>?_⟩
 ·rw[V] at I
  obtain⟨h1,Z⟩:=sp I;rw[W I];exact inr (hc.gp _ h1) (hd.gp _ Z)
 ·rw[V] at I
  obtain⟨h1,Z⟩:=sp I;rw[Y I];exact inr (hc.gE _ h1) (hd.gE _ Z)
 ·show(((List.range (c.an.length*d.an.length)).map _).length:Int)=c.ob*d.ob
  rw[List.length_map,List.length_range,Int.natCast_mul,hc.cP,hd.cP]
 ·have hx:x<c.an.length*d.an.length:=by simpa[gX] using hx
  obtain⟨h1,Z⟩:=sp hx;obtain⟨k,k1,k2,k3,k4⟩:=hc.jT _ h1;obtain⟨j,j1,j2,j3,j4⟩:=hd.jT _ Z;obtain⟨b1,b2⟩:=back k2 j2;have S:=AI k2 j2
  have ag:((x / d.an.length:Nat):Int)*d.ob+((x % d.an.length:Nat):Int)=x:=by
   rw[<-hd.cP,<-Int.natCast_mul,<-Int.natCast_add,Nat.mul_comm,Nat.div_add_mod]
  refine⟨k*d.fr.length+j,?_,by rw[V];exact S,?_,?_⟩
  ·show((List.range (c.an.length*d.an.length)).map fun i=>c.an.getD (i / d.an.length) 0*(d.fr.length:Int)+d.an.getD (i % d.an.length) 0).getD x 0=_
   rw[dT hx,k1,j1,Int.natCast_add,Int.natCast_mul]
  ·rw[W S,b1,b2,k3,j3,ag]
  ·rw[Y S,b1,b2,k4,j4,ag]
 ·rw[V] at I|-
  show(((List.range (c.fr.length*d.fr.length)).map fun i=>(List.range (c.fr.length*d.fr.length)).map fun j=>_).getD f []).length=_;rw[dT I,List.length_map,List.length_range]
 ·rw[V] at I hg
  obtain⟨f1,f2⟩:=sp I;obtain⟨g1,g2⟩:=sp hg
  have ab:(gX c d).cell f g=if 0<=c.cell (f / d.fr.length) (g / d.fr.length)/\0<=d.cell (f % d.fr.length) (g % d.fr.length) then c.cell (f / d.fr.length) (g / d.fr.length)*d.fr.length+d.cell (f % d.fr.length) (g % d.fr.length) else -1:=by
   show(((List.range (c.fr.length*d.fr.length)).map fun i=>(List.range (c.fr.length*d.fr.length)).map fun j=>_).getD f []).getD g 0=_;rw[dT I,dT hg]
  unfold af.lB;rw[ab,Y I,W hg];obtain⟨a1,b1⟩:=hc.kx _ _ f1 g1;obtain⟨a2,b2⟩:=hd.kx _ _ f2 g2;refine⟨fun e=>?_,fun e=>?_⟩
  ·by_cases e1:c.to.getD (f / d.fr.length) 0=c.fr.getD (g / d.fr.length) 0
   ·by_cases e2:d.to.getD (f % d.fr.length) 0=d.fr.getD (g % d.fr.length) 0
    ·rw[e1,e2] at e;exact absurd rfl e
    ·rw[if_neg (by rw[a2 e2];omega)]
   ·rw[if_neg (by rw[a1 e1];omega)]
  ·obtain⟨t1,t2⟩:=hd.gE _ f2
   obtain⟨t3,t4⟩:=hd.gp _ g2;obtain⟨e1,e2⟩:=WT t1 t2 t3 t4 e;obtain⟨k,k1,k2,k3,k4⟩:=b1 e1;obtain⟨j,j1,j2,j3,j4⟩:=b2 e2;obtain⟨q1,q2⟩:=back k2 j2;have S:=AI k2 j2;refine⟨k*d.fr.length+j,?_,by rw[V];exact S,?_,?_⟩
   ·rw[k1,j1,if_pos (by omega),Int.natCast_add,Int.natCast_mul]
   ·rw[W S,W I,q1,q2,k3,j3]
   ·rw[Y S,Y hg,q1,q2,k4,j4]
end Go.D3
namespace Go.D3
open Go
theorem af.Wf.of{c:af}(h:c.Shape):c.Wf:=by
 refine⟨h.cZ,fun f S=>db h.rz S,h.to,fun f S=>db h.xy (by rw[h.to];exact S),h.co,h.an,fun x W=>?_,h.row,fun f g S hg=>?_⟩
 ·have:=h.toPre.idx W
  have V:=h.ids x W;simp only[af.jS,Bool.and_eq_true,beq_iff_eq] at V;exact⟨(c.an.getD x 0).toNat,by omega,by omega,V.1,V.2⟩
 ·have I:=h.cells f g S hg
  unfold af.gL at I;unfold af.lB;refine⟨fun e=>?_,fun e=>?_⟩
  ·rw[if_pos (by simpa using e)] at I
   simpa using I
  ·rw[if_neg (by rw[e,bne_self_eq_false];exact Bool.noConfusion)] at I
   simp only[Bool.and_eq_true,decide_eq_true_eq,beq_iff_eq] at I;exact⟨(c.cell f g).toNat,by omega,by omega,I.1.2,I.2⟩
def bt(c d:af):List Int:=(aS c d).fr++(List.range (c.ob.toNat*d.ob.toNat)).map fun i=>((i / d.ob.toNat:Nat):Int)
def dH(c d:af):List Int:=(aS c d).to++(List.range (c.ob.toNat*d.ob.toNat)).map fun i=>c.ob+((i % d.ob.toNat:Nat):Int)
def mR(c d:af)(f g:Nat):Int :=
 if(dH c d).getD f 0≠(bt c d).getD g 0 then -1
 else if f<(aS c d).fr.length/\g<(aS c d).fr.length then(aS c d).cell f g
 else(aS c d).fr.length+(bt c d).getD f 0*d.ob+(dH c d).getD g 0-c.ob
def tz(c d:af):af where
 ob:=(aS c d).ob
 fr:=bt c d
 to:=dH c d
 an:=(aS c d).an
 co:=(List.range (bt c d).length).map fun f=>(List.range (bt c d).length).map fun g=>mR c d f g
theorem GZ{c d:af}(hc:c.Wf)(hd:d.Wf):(tz c d).Wf:=by
 have W:=BO hc hd;have cZ:=hc.cZ;have a1:=hd.cZ;have Z:(bt c d).length=(aS c d).fr.length+c.ob.toNat*d.ob.toNat:=by simp[bt]
 have ao:(dH c d).length=(aS c d).fr.length+c.ob.toNat*d.ob.toNat:=by simp[dH,W.bQ]
 have S:∀{f},f<(aS c d).fr.length->(bt c d).getD f 0=(aS c d).fr.getD f 0:=fun h=>fF h
 have bQ:∀{f},f<(aS c d).fr.length->(dH c d).getD f 0=(aS c d).to.getD f 0:=fun h=>fF (by rw[W.bQ];exact h)
 have Y:∀{i},i<c.ob.toNat*d.ob.toNat->(bt c d).getD ((aS c d).fr.length+i) 0=((i / d.ob.toNat:Nat):Int):=fun {i} h=>by
  unfold bt;rw[fS (Nat.le_add_right _ _),Nat.add_sub_cancel_left,dT h]
 have ie:∀{i},i<c.ob.toNat*d.ob.toNat->(dH c d).getD ((aS c d).fr.length+i) 0=c.ob+((i % d.ob.toNat:Nat):Int):=fun {i} h=>by
  unfold dH;rw[fS (by rw[W.bQ];omega),W.bQ,Nat.add_sub_cancel_left,dT h]
 have sp:∀{i:Nat},i<c.ob.toNat*d.ob.toNat->i / d.ob.toNat<c.ob.toNat/\i % d.ob.toNat<d.ob.toNat:=fun {i} h=>by
  have hn : 0<d.ob.toNat:=by
   rcases Nat.eq_zero_or_pos d.ob.toNat with h' | h'
   ·rw[h',Nat.mul_zero] at h;omega
   ·exact h'
  exact⟨Nat.div_lt_of_lt_mul (by rw[Nat.mul_comm];exact h),Nat.mod_lt _ hn⟩
 have split:∀{f},f<(aS c d).fr.length+c.ob.toNat*d.ob.toNat->f<(aS c d).fr.length\/∃k,f=(aS c d).fr.length+k/\k<c.ob.toNat*d.ob.toNat:=fun {f} h=>by
  by_cases h1:f<(aS c d).fr.length
  ·exact .inl h1
  ·exact .inr ⟨f-(aS c d).fr.length,by omega,by omega⟩
 have ag:(aS c d).ob=c.ob+d.ob:=rfl
 have side:∀{f},f<(aS c d).fr.length->((aS c d).fr.getD f 0<c.ob/\(aS c d).to.getD f 0<c.ob)\/(c.ob<=(aS c d).fr.getD f 0/\c.ob<=(aS c d).to.getD f 0):=fun {f} h=>by
  have h':f<c.fr.length+d.fr.length:=by simpa[aS] using h
  by_cases h1:f<c.fr.length
  ·have e1:(aS c d).fr.getD f 0=c.fr.getD f 0:=fF h1
   have e2:(aS c d).to.getD f 0=c.to.getD f 0:=fF (by rw[hc.bQ];exact h1);have:=hc.gp f h1;have:=hc.gE f h1;omega
  ·have e1:(aS c d).fr.getD f 0=d.fr.getD (f-c.fr.length) 0+c.ob:=by
    show(c.fr++d.fr.map (·+c.ob)).getD f 0=_;rw[fS (by omega),kF 0 (by omega)]
   have e2:(aS c d).to.getD f 0=d.to.getD (f-c.fr.length) 0+c.ob:=by
    show(c.to++d.to.map (·+c.ob)).getD f 0=_;have:=hc.bQ;have:=hd.bQ;rw[fS (by omega),hc.bQ,kF 0 (by omega)]
   have:=hd.gp (f-c.fr.length) (by omega);have:=hd.gE (f-c.fr.length) (by omega);omega
 have ad:∀{x y:Int},0<=x->x<c.ob->c.ob<=y->y<c.ob+d.ob->∃i:Nat,((aS c d).fr.length:Int)+x*d.ob+y-c.ob=(((aS c d).fr.length+i:Nat):Int)/\i<c.ob.toNat*d.ob.toNat/\((i / d.ob.toNat:Nat):Int)=x/\c.ob+((i % d.ob.toNat:Nat):Int)=y:=fun {x y} h0 h1 V h3=>by
  have hx:x.toNat<c.ob.toNat:=by omega
  have hy:(y-c.ob).toNat<d.ob.toNat:=by omega
  have hn : 0<d.ob.toNat:=by omega
  have e1:(x.toNat*d.ob.toNat+(y-c.ob).toNat) / d.ob.toNat=x.toNat:=by rw[Nat.mul_comm,Nat.mul_add_div hn,Nat.div_eq_of_lt hy,Nat.add_zero]
  have e2:(x.toNat*d.ob.toNat+(y-c.ob).toNat) % d.ob.toNat=(y-c.ob).toNat:=by rw[Nat.mul_comm,Nat.mul_add_mod,Nat.mod_eq_of_lt hy]
  refine⟨x.toNat*d.ob.toNat+(y-c.ob).toNat,?_,AI hx hy,by rw[e1];omega,by rw[e2];omega⟩;have e3:((x.toNat*d.ob.toNat:Nat):Int)=x*d.ob:=by rw[Int.natCast_mul,Int.toNat_of_nonneg h0,Int.toNat_of_nonneg a1]
  rw[Int.natCast_add,Int.natCast_add,e3];omega
 have ab:∀{f g},f<(bt c d).length->g<(bt c d).length->(tz c d).cell f g=mR c d f g:=fun h1 V=>by
  show(((List.range (bt c d).length).map fun f=>(List.range (bt c d).length).map fun g=>mR c d f g).getD _ []).getD _ 0=_;rw[dT h1,dT V]
 refine⟨W.cZ,fun f I=>?_,by show(dH c d).length=(bt c d).length;rw[ao,Z],fun f I=>?_,by simp[tz],W.cP,fun x hx=>?_,fun f I=>?_,fun f g I hg=>?_⟩
 ·have I:f<(bt c d).length:=I
  rw[Z] at I;show 0<=(bt c d).getD f 0/\(bt c d).getD f 0<c.ob+d.ob;rcases split I with h | ⟨k,rfl,h⟩
  ·rw[S h];exact W.gp f h
  ·rw[Y h];have:=sp h;have:=Int.natCast_nonneg (k / d.ob.toNat);omega
 ·have I:f<(bt c d).length:=I
  rw[Z] at I;show 0<=(dH c d).getD f 0/\(dH c d).getD f 0<c.ob+d.ob;rcases split I with h | ⟨k,rfl,h⟩
  ·rw[bQ h];exact W.gE f h
  ·rw[ie h];have:=sp h;omega
 ·obtain⟨k,k1,k2,k3,k4⟩:=W.jT x hx
  exact⟨k,k1,by show k<(bt c d).length;omega,by show(bt c d).getD k 0=_;rw[S k2];exact k3,by show(dH c d).getD k 0=_;rw[bQ k2];exact k4⟩
 ·have I:f<(bt c d).length:=I
  show(((List.range (bt c d).length).map fun f=>_).getD f []).length=(bt c d).length;rw[dT I,List.length_map,List.length_range]
 ·have I:f<(bt c d).length:=I
  have hg:g<(bt c d).length:=hg;unfold af.lB;rw[ab I hg];show((dH c d).getD f 0≠(bt c d).getD g 0->_)/\((dH c d).getD f 0=(bt c d).getD g 0->∃h:Nat,_/\h<(bt c d).length/\(bt c d).getD h 0=(bt c d).getD f 0/\(dH c d).getD h 0=(dH c d).getD g 0);refine⟨fun e=>by unfold mR;rw[if_pos e],fun e=>?_⟩;unfold mR;rw[if_neg (fun h=>h e)];rw[Z] at I hg;by_cases hb:f<(aS c d).fr.length/\g<(aS c d).fr.length
  ·rw[if_pos hb]
   obtain⟨k,k1,k2,k3,k4⟩:=(W.kx f g hb.1 hb.2).2 (by rw[bQ hb.1,S hb.2] at e;exact e);exact⟨k,k1,by omega,by rw[S k2,S hb.1];exact k3,by rw[bQ k2,bQ hb.2];exact k4⟩
  ·rw[if_neg hb]
   have key:(0<=(bt c d).getD f 0/\(bt c d).getD f 0<c.ob)/\c.ob<=(dH c d).getD g 0/\(dH c d).getD g 0<c.ob+d.ob:=by
    rcases split I with h1 | ⟨k,rfl,h1⟩<;>rcases split hg with V | ⟨j,rfl,V⟩
    ·exact absurd ⟨h1,V⟩ hb
    ·rw[bQ h1,Y V] at e
     rw[S h1,ie V];have:=side h1;have:=W.gp f h1;have:=sp V;omega
    ·rw[ie h1,S V] at e
     rw[Y h1,bQ V];have:=side V;have ax:=W.gE g V;have:=sp h1;have:=Int.natCast_nonneg (k / d.ob.toNat);rw[ag] at ax;omega
    ·rw[ie h1,Y V] at e
     have:=sp h1;have:=sp V;omega
   obtain⟨i,i1,i2,i3,i4⟩:=ad key.1.1 key.1.2 key.2.1 key.2.2;exact⟨(aS c d).fr.length+i,i1,by omega,by rw[Y i2,i3],by rw[ie i2,i4]⟩
def fv(rel:Nat->Nat->Bool)(i n:Nat):List Nat:=(List.range n).filter (rel i)
def aT(rel:Nat->Nat->Bool)(N:Nat):Nat->List (Nat×Nat)
 | 0=>[]
 | i+1=>aT rel N i++(fv rel i N).map fun j=>(i,j)
def dZ(rel:Nat->Nat->Bool)(N i j:Nat):Nat:=(aT rel N i).length+(fv rel i j).length
theorem JQ{rel:Nat->Nat->Bool}{i n:Nat}:fv rel i (n+1)=fv rel i n++if rel i n=true then[n] else[]:=by
 unfold fv;rw[List.range_succ,List.filter_append];by_cases h:rel i n=true
 ·rw[if_pos h,List.filter_cons_of_pos h];rfl
 ·rw[if_neg h,List.filter_cons_of_neg h];rfl
theorem JP{rel:Nat->Nat->Bool}{i j:Nat}(h:rel i j=true):∀{n:Nat},j<n->(fv rel i j).length<(fv rel i n).length/\(fv rel i n).getD (fv rel i j).length 0=j
 | n+1,hj=>by
  rw[JQ];by_cases h1:j<n
  ·obtain⟨a,b⟩:=JP h h1
   exact⟨by rw[List.length_append];omega,by rw[fF a];exact b⟩
  ·obtain rfl:j=n:=by omega
   rw[if_pos h];exact⟨by rw[List.length_append];show _<_+1;omega,by rw[fS (Nat.le_refl _),Nat.sub_self];rfl⟩
theorem AG{rel:Nat->Nat->Bool}{N i j:Nat}(h:rel i j=true)(I:j<N):∀{n:Nat},i<n->dZ rel N i j<(aT rel N n).length/\(aT rel N n).getD (dZ rel N i j) (0,0)=(i,j)
 | n+1,hi=>by
  rw[aT];by_cases h1:i<n
  ·obtain⟨a,b⟩:=AG h I h1
   exact⟨by rw[List.length_append];omega,by rw[fF a];exact b⟩
  ·obtain rfl:i=n:=by omega
   obtain⟨a,b⟩:=JP h I;unfold dZ;refine⟨by rw[List.length_append,List.length_map];omega,?_⟩;rw[fS (Nat.le_add_right _ _),Nat.add_sub_cancel_left,kF 0 a,b]
theorem AH{rel:Nat->Nat->Bool}{N:Nat}:∀{n:Nat}{p:Nat×Nat},p∈aT rel N n->p.1<n/\p.2<N/\rel p.1 p.2=true
 | n+1,p,h=>by
  rw[aT] at h;rcases List.mem_append.1 h with h | h
  ·have:=AH h
   exact⟨by omega,this.2⟩
  ·obtain⟨j,I,rfl⟩:=List.mem_map.1 h
   unfold fv at I;rw[List.mem_filter,List.mem_range] at I;exact⟨Nat.lt_succ_self _,I⟩
theorem wQ{rel:Nat->Nat->Bool}{N:Nat}:∀{n:Nat},(aT rel N n).length<=n*N
 | 0=>by simp[aT]
 | n+1=>by
  have:=wQ (rel:=rel) (N:=N) (n:=n)
  have I:(fv rel n N).length<=N:=by
   unfold fv;exact Nat.le_trans (List.length_filter_le _ _) (by rw[List.length_range];exact Nat.le_refl _)
  rw[aT,List.length_append,List.length_map,Nat.add_mul,Nat.one_mul];omega
def gz(rel:Nat->Nat->Bool)(n:Nat):af where
 ob:=n
 fr:=(aT rel n n).map fun p=>(p.1:Int)
 to:=(aT rel n n).map fun p=>(p.2:Int)
 an:=(List.range n).map fun i=>(dZ rel n i i:Int)
 co:=(List.range (aT rel n n).length).map fun f=>(List.range (aT rel n n).length).map fun g =>
  if((aT rel n n).getD f (0,0)).2=((aT rel n n).getD g (0,0)).1 then(dZ rel n ((aT rel n n).getD f (0,0)).1 ((aT rel n n).getD g (0,0)).2:Int) else -1
theorem WQ{rel:Nat->Nat->Bool}{n:Nat}(hr:∀i,i<n->rel i i=true)(ht:∀i j k,i<n->j<n->k<n->rel i j=true->rel j k=true->rel i k=true):(gz rel n).Wf:=by
 have S:(gz rel n).fr.length=(aT rel n n).length:=by simp[gz]
 have V:∀{f},f<(aT rel n n).length->(gz rel n).fr.getD f 0=(((aT rel n n).getD f (0,0)).1:Int):=fun h=>kF (0,0) h
 have W:∀{f},f<(aT rel n n).length->(gz rel n).to.getD f 0=(((aT rel n n).getD f (0,0)).2:Int):=fun h=>kF (0,0) h
 have Y:∀{f},f<(aT rel n n).length->((aT rel n n).getD f (0,0)).1<n/\((aT rel n n).getD f (0,0)).2<n/\rel ((aT rel n n).getD f (0,0)).1 ((aT rel n n).getD f (0,0)).2=true:=fun {f} h=>AH (by rw[aM h];exact List.getElem_mem _)
 refine⟨Int.natCast_nonneg _,fun f I=>?_,by simp[gz],fun f I=>?_,by simp[gz],by simp[gz],fun x hx=>?_,fun f I=>?_,fun f g I hg=>?_⟩
 ·rw[S] at I
  rw[V I];have:=Y I;show _/\_<(n:Int);omega
 ·rw[S] at I
  rw[W I];have:=Y I;show _/\_<(n:Int);omega
 ·have hx:x<n:=by simpa[gz] using hx
  obtain⟨a,b⟩:=AG (hr x hx) hx (n:=n) hx;refine⟨dZ rel n x x,?_,by rw[S];exact a,by rw[V a,b],by rw[W a,b]⟩;show((List.range n).map fun i=>(dZ rel n i i:Int)).getD x 0=_;rw[dT hx]
 ·rw[S] at I|-
  show(((List.range (aT rel n n).length).map fun f=>_).getD f []).length=_;rw[dT I,List.length_map,List.length_range]
 ·rw[S] at I hg
  have Z:(gz rel n).cell f g=if((aT rel n n).getD f (0,0)).2=((aT rel n n).getD g (0,0)).1 then(dZ rel n ((aT rel n n).getD f (0,0)).1 ((aT rel n n).getD g (0,0)).2:Int) else -1:=by
   show(((List.range (aT rel n n).length).map fun f=>(List.range (aT rel n n).length).map fun g=>_).getD f []).getD g 0=_;rw[dT I,dT hg]
  unfold af.lB;rw[Z,W I,V hg];refine⟨fun e=>if_neg fun h=>e (by rw[h]),fun e=>?_⟩;have e:((aT rel n n).getD f (0,0)).2=((aT rel n n).getD g (0,0)).1:=by omega
  obtain⟨a1,a2,a3⟩:=Y I;obtain⟨b1,b2,b3⟩:=Y hg;obtain⟨a,b⟩:=AG (ht _ _ _ a1 a2 b2 a3 (by rw[e];exact b3)) b2 (n:=n) a1;exact⟨_,if_pos e,by rw[S];exact a,by rw[V a,V I,b],by rw[W a,W hg,b]⟩
end Go.D3
namespace Go.D3
open Go Proofs
set_option maxHeartbeats 4000000
set_option maxRecDepth 100000
theorem gw{α:Type}{f:Nat->α}{n:Nat}:(List.range (n+1)).map f=(List.range n).map f++[f n]:=by simp[List.range_succ]
abbrev gj(n:Int)(fr to an:List Int)(co:List (List Int)):D:=.box [.int .i64 n,.o (ints fr),.o (ints to),.o (ints an),.o (aC co)]
def Ih(c:af)(f:Nat):List Int:=(List.range c.fr.length).map fun g=>c.cell g f
def DF:List Nat:=[0,2,1,3,4,5,6]
def LM:Sl:=ah Tryz.types Tryz.f217 DF []
theorem Vl:aE Tryz.prog Tryz.f217 DF LM 1=true:=by decide +kernel
theorem YX(c:af)(h:c.Wf)(Y:c.fr.length<=1048576)(hi:c.an.length<=1048576):aA Tryz.prog 217 [.v c.d] (tZ c).d:=by
 have S:=h.eu;have V:=h.bQ;refine aQ Tryz.func217 Vl ?_;unfold LM ah DF;simp only[go_sem];refine aj (eE c.to (by omega)) rfl (.inl (bJ _)) ?_;simp only[go_sem];refine aj (eE c.fr (by omega)) rfl (.inl (bJ _)) ?_;simp only[go_sem];refine aj (eE c.an (by omega)) rfl (.inl (bJ _)) ?_;simp only[go_sem];refine au [5,6] (fun f:Nat=>[(4,.int .i64 f),(3,gj c.ob c.to c.fr c.an ((List.range f).map (Ih c)))]) (fun f=>f<=c.fr.length) (fun f=>c.fr.length-f) 0 (by simp only[go_sem];rfl) (Nat.zero_le _) rfl ?_;intro f W;have lf:((List.range f).map (Ih c)).length=f:=by simp
 simp only[go_sem];refine⟨fun h1=>?_,fun h1=>?_⟩
 ·refine au [] (fun g:Nat=>[(6,.int .i64 g),(5,.o (ints ((List.range g).map fun g=>c.cell g f)))]) (fun g=>g<=c.fr.length) (fun g=>c.fr.length-g) 0 (by simp only[go_sem];rfl) (Nat.zero_le _) rfl ?_
  intro g hg;have lg:((List.range g).map fun g=>c.cell g f).length=g:=by simp
  simp only[go_sem];refine⟨fun I=>?_,fun I=>?_⟩
  ·have Z:=h.row g I
   refine⟨by omega,by omega,by omega,g+1,by omega,by omega,?_⟩;rw[aw I (by simp only[maxLen];omega),gw];rfl
  ·obtain rfl:g=c.fr.length:=by omega
   refine⟨by omega,f+1,by omega,by omega,?_⟩;rw[aw h1 (by simp only[maxLen];omega),gw];rfl
 ·obtain rfl:f=c.fr.length:=by omega
  rfl
end Go.D3
namespace Go.D3
open Go Proofs
set_option maxHeartbeats 4000000
set_option maxRecDepth 100000
theorem yz{α:Type}{f:α->Nat}{m:Nat}:∀{l:List α},(∀x∈l,f x<=m)->da f l<=l.length*(m+1)
 | [],_=>by simp[da]
 | a::l,h=>by
  have h1:=h a List.mem_cons_self;have S:=yz (f:=f) (m:=m) fun x I=>h x (List.mem_cons_of_mem a I)
  simp only[da,List.length_cons,Nat.succ_mul,List.map_cons,List.sum_cons] at *;omega
theorem abh{c:af}(I:c.Wf)(h1:c.fr.length<=600)(Z:c.ob<=600):af.cost c<=1048576:=by
 have W:=I.bQ;have S:=I.eu;have V:=I.cP
 have h5:da List.length c.co<=c.co.length*(600+1):=yz fun x Y=>by
  obtain⟨i,hi,rfl⟩:=List.getElem_of_mem Y;have:=I.row i (by omega);rw[aM hi] at this;omega
 unfold af.cost;omega
def bM{α:Type}(acc:List α)(f:Nat->α):Nat->List α
 | 0=>acc
 | y+1=>bM acc f y++[f y]
theorem im{α:Type}{acc:List α}{f:Nat->α}:∀{n:Nat},bM acc f n=acc++(List.range n).map f
 | 0=>by simp[bM]
 | n+1=>by rw[bM,im,gw,List.append_assoc]
theorem iN{α:Type}{acc:List α}{f:Nat->α}{n:Nat}:(bM acc f n).length=acc.length+n:=by rw[im];simp
def gO(base:List (List Int))(f:Nat):Nat->List (List Int)
 | 0=>base
 | g+1=>(gO base f g).set f ((gO base f g).getD f []++[-1])
theorem yU{base:List (List Int)}{f:Nat}:∀{g:Nat},(gO base f g).length=base.length
 | 0=>rfl
 | g+1=>by rw[gO,List.length_set,yU]
def gk(base:List (List Int))(n:Nat):Nat->List (List Int)
 | 0=>base
 | f+1=>gO (gk base n f) f n
theorem rq{base:List (List Int)}{n:Nat}:∀{f:Nat},(gk base n f).length=base.length
 | 0=>rfl
 | f+1=>by rw[gk,yU,rq]
theorem yT{base:List (List Int)}{f:Nat}(I:f<base.length):∀{g:Nat},gO base f g=base.set f (base.getD f []++List.replicate g (-1))
 | 0=>by
  rw[gO,List.replicate_zero,List.append_nil]
  exact(List.ext_getElem (by simp) fun i h1 S=>by
   rw[List.getElem_set];split
   ·rename_i h;subst h;rw[aM I]
   ·rfl)
 | g+1=>by
  rw[gO,yT I,List.set_set];congr 1;rw[aM (by simpa using I),List.getElem_set_self,List.append_assoc,List.replicate_succ']
theorem yS{base:List (List Int)}{n:Nat}:∀{f:Nat},f<=base.length->gk base n f=(base.take f).map (·++List.replicate n (-1))++base.drop f
 | 0,_=>by simp[gk]
 | f+1,h=>by
  rw[gk,yT (by rw[rq];omega),yS (by omega)];refine List.ext_getElem (by simp;omega) fun i h1 S=>?_
  rw[List.getElem_set];have hi:i<base.length:=by simp at h1;omega
  by_cases I:f=i
  ·subst I
   rw[if_pos rfl,aM (by simp;omega),List.getElem_append_right (by simp;omega),List.getElem_append_left (by simp;omega)];have hm:min f base.length=f:=by omega
   simp[hm]
  ·rw[if_neg I]
   by_cases hlt:i<f
   ·rw[List.getElem_append_left (by simp;omega),List.getElem_append_left (by simp;omega)];simp
   ·rw[List.getElem_append_right (by simp;omega),List.getElem_append_right (by simp;omega)]
    simp only[List.length_map,List.length_take,List.getElem_drop];congr 1;omega
theorem PZ{base:List (List Int)}{n f g:Nat}(I:f<base.length):(gO (gk base n f) f g).getD f []=base.getD f []++List.replicate g (-1):=by
 rw[yT (by rw[rq];exact I),aM (by rw[List.length_set,rq];exact I),List.getElem_set_self];congr 1;have hm:min f base.length=f:=by omega
 rw[yS (by omega),fS (by simp;omega),List.length_map,List.length_take,hm,Nat.sub_self,List.getD_eq_getElem?_getD,List.getElem?_drop,List.getD_eq_getElem?_getD];rfl
theorem Bh{l:List Int}{k:Int}:(List.range l.length).map (fun i=>l.getD i 0+k)=l.map (·+k) :=
 List.ext_getElem (by simp) fun i h1 I=>by
  have:i<l.length:=by simpa using h1
  simp[this]
def uM(c d:af)(f:Nat):List Int:=List.replicate c.fr.length (-1)++(List.range d.fr.length).map fun g=>mh c.fr.length (d.cell f g)
def DJ:List Nat:=[0,1,4,2,3,5,6,7,8,9,10,11,12,13,14,15]
def LQ:Sl:=ah Tryz.types Tryz.f152 DJ []
theorem Vp:aE Tryz.prog Tryz.f152 DJ LQ 2=true:=by decide +kernel
theorem JI(c d:af)(Y:c.Wf)(V:d.Wf)(h1:c.fr.length<=600)(S:d.fr.length<=600)(h3:c.ob<=600)(h4:d.ob<=600):aA Tryz.prog 152 [.v c.d,.v d.d] (aS c d).d:=by
 have bF:=Y.bQ;have ad:=V.bQ;have a7:=Y.eu;have bT:=V.eu;have a8:=Y.cP;have ab:=V.cP;have bg:=Y.cZ;have b0:=V.cZ;have ag:=abh Y h1 h3;refine aQ Tryz.func152 Vp ?_;unfold LQ ah DJ;simp only[go_sem];refine aj (uA c ag) rfl (.inl (dA _)) ?_;simp only[go_sem];rw[wrap_small (by omega) (by omega)];refine au [] (fun y:Nat=>[(8,.int .i64 y),(7,gj (c.ob+d.ob) c.fr c.to (bM c.an (fun y=>d.an.getD y 0+(c.fr.length:Int)) y) c.co)]) (fun y=>y<=d.an.length) (fun y=>d.an.length-y) 0 (by simp only[go_sem];rfl) (Nat.zero_le _) rfl ?_;intro y hy;have b1:d.ob=(d.an.length:Int):=ab.symm;have ly:=@iN _ c.an (fun y=>d.an.getD y 0+(c.fr.length:Int)) y;simp only[go_sem];refine⟨fun h=>?_,fun h=>?_⟩
 ·have hr:=V.jT y (by omega)
  obtain⟨k,k1,k2,_⟩:=hr;refine⟨by omega,by omega,y+1,by omega,by omega,?_⟩;rw[aw (show y<d.an.length by omega) (by simp only[maxLen];omega),wrap_small (by omega) (by omega)];rfl
 obtain rfl:y=d.an.length:=by omega
 generalize hI:bM c.an (fun y=>d.an.getD y 0+(c.fr.length:Int)) d.an.length=I;refine au [10] (fun f:Nat=>[(9,.int .i64 f),(7,gj (c.ob+d.ob) c.fr c.to I (gk c.co d.fr.length f))]) (fun f=>f<=c.co.length) (fun f=>c.co.length-f) 0 (by simp only[go_sem];rfl) (Nat.zero_le _) rfl ?_;intro f hf;have lf:=@rq c.co d.fr.length f;simp only[go_sem];refine⟨fun h=>?_,fun h=>?_⟩
 ·refine au [] (fun g:Nat=>[(10,.int .i64 g),(7,gj (c.ob+d.ob) c.fr c.to I (gO (gk c.co d.fr.length f) f g))]) (fun g=>g<=d.fr.length) (fun g=>d.fr.length-g) 0 (by simp only[go_sem];rfl) (Nat.zero_le _) rfl ?_
  intro g hg;have Z:=@yU (gk c.co d.fr.length f) f g;simp only[go_sem];refine⟨fun S=>?_,fun S=>?_⟩
  ·have a6:∀{L:List D}{z:D},f<L.length->(L.set f .dead).getD f z=.dead:=fun h=>by rw[List.getD_eq_getElem?_getD,List.getElem?_set_self h];rfl
   have W:((gO (gk c.co d.fr.length f) f g).getD f []).length<=1200:=by
    have:=Y.row f (by omega);rw[PZ (by omega),List.length_append,List.length_replicate];omega
   refine⟨by omega,by omega,⟨by simp;omega,by rw[a6 (by simp;omega)];rfl⟩,by simp;omega,g+1,by omega,by omega,?_⟩;rw[ZU rfl,aw S (by simp only[maxLen];omega),gO];have e:((gO (gk c.co d.fr.length f) f g).map ints).set f (ae (.int .i64) 0 ((gO (gk c.co d.fr.length f) f g).getD f []++[-1]))=((gO (gk c.co d.fr.length f) f g).set f ((gO (gk c.co d.fr.length f) f g).getD f []++[-1])).map ints:=List.map_set.symm;rw[e];rfl
  obtain rfl:g=d.fr.length:=by omega
  refine⟨f+1,by omega,by omega,?_⟩;rw[aw h (by simp only[maxLen];omega),gk]
 obtain rfl:f=c.co.length:=by omega
 generalize hT:gk c.co d.fr.length c.co.length=T;have lT:T.length=c.co.length:=by rw[<-hT,rq]
 refine au [12,13,14,15] (fun f:Nat=>[(11,.int .i64 f),(7,gj (c.ob+d.ob) (bM c.fr (fun i=>d.fr.getD i 0+c.ob) f) (bM c.to (fun i=>d.to.getD i 0+c.ob) f) I (bM T (uM c d) f))]) (fun f=>f<=d.fr.length) (fun f=>d.fr.length-f) 0 (by simp only[go_sem];rfl) (Nat.zero_le _) rfl ?_;intro f hf;have l1:=@iN _ c.fr (fun i=>d.fr.getD i 0+c.ob) f;have l2:=@iN _ c.to (fun i=>d.to.getD i 0+c.ob) f;have l3:=@iN _ T (uM c d) f;simp only[go_sem];refine⟨fun h=>?_,fun h=>?_⟩
 ·have r1:=V.gp f h
  have r2:=V.gE f h;refine⟨h,by omega,by omega,by omega,?_⟩;rw[wrap_small (by omega) (by omega),wrap_small (by omega) (by omega)];refine au [] (fun g:Nat=>[(13,.int .i64 g),(12,.o (ints (bM [] (fun _=>-1) g)))]) (fun g=>g<=c.fr.length) (fun g=>c.fr.length-g) 0 (by simp only[go_sem];rfl) (Nat.zero_le _) rfl ?_;intro g hg;have Z:=@iN Int [] (fun _=>-1) g;simp only[go_sem];refine⟨fun S=>?_,fun S=>?_⟩
  ·simp only[List.length_nil] at Z
   refine⟨by omega,g+1,by omega,by omega,?_⟩;rw[aw (show g<c.fr.length by omega) (by simp only[maxLen];omega)];rfl
  obtain rfl:g=c.fr.length:=by omega
  generalize hR:bM [] (fun _=>(-1:Int)) c.fr.length=R at Z;simp only[List.length_nil,Nat.zero_add] at Z;refine au [15] (fun g:Nat=>[(14,.int .i64 g),(12,.o (ints (bM R (fun g=>mh c.fr.length (d.cell f g)) g)))]) (fun g=>g<=d.fr.length) (fun g=>d.fr.length-g) 0 (by simp only[go_sem];rfl) (Nat.zero_le _) rfl ?_;intro g hg;have b2:=@iN _ R (fun g=>mh c.fr.length (d.cell f g)) g;simp only[go_sem];refine⟨fun S=>?_,fun S=>?_⟩
  ·have hr:=V.row f h
   have ax:d.cell f g<=600:=by
    obtain⟨a1,a2⟩:=V.kx f g h S;by_cases e:d.to.getD f 0=d.fr.getD g 0
    ·obtain⟨k,k1,k2,_⟩:=a2 e
     omega
    ·rw[a1 e];decide
   have ao:(d.co.getD f []).getD g 0=d.cell f g:=rfl;rw[ao];refine⟨by omega,by omega,fun h0=>⟨by omega,g+1,by omega,by omega,?_⟩,fun h0=>⟨by omega,g+1,by omega,by omega,?_⟩⟩
   ·rw[aw S (by simp only[maxLen];omega),wrap_small (by omega) (by omega)]
    show _=_;rw[bM,mh,if_pos h0]
   ·rw[aw S (by simp only[maxLen];omega)]
    rw[bM,mh,if_neg (by omega)]
  obtain rfl:g=d.fr.length:=by omega
  refine⟨by omega,f+1,by omega,by omega,?_⟩
  have W:bM R (fun g=>mh c.fr.length (d.cell f g)) d.fr.length=uM c d f:=by
   rw[im,<-hR,im,List.nil_append];unfold uM;congr 1;exact List.ext_getElem (by simp) fun i h1 S=>by simp
  rw[aw h (by simp only[maxLen];omega),W];rfl
 obtain rfl:f=d.fr.length:=by omega
 have e1:bM c.fr (fun i=>d.fr.getD i 0+c.ob) d.fr.length=(aS c d).fr:=by rw[im,Bh];rfl
 have e2:bM c.to (fun i=>d.to.getD i 0+c.ob) d.fr.length=(aS c d).to:=by rw[im,<-ad,Bh];rfl
 have e3:I=(aS c d).an:=by rw[<-hI,im,Bh];rfl
 have e4:bM T (uM c d) d.fr.length=(aS c d).co:=by
  rw[im,<-hT,yS (Nat.le_refl _),List.take_length,List.drop_length,List.append_nil];rfl
 rw[e1,e2,e3,e4];rfl
end Go.D3
namespace Go.D3
open Go
def aL(R:List (List Int))(i j:Nat):Bool:=(R.getD i []).getD j 0 == 1
structure gi(n:Nat)(R:List (List Int)):Prop where
 len:R.length=n
 row:∀i,i<n->(R.getD i []).length=n
 one:∀i,i<n->aL R i i=true
def Tr(n m:Nat)(R:List (List Int)):Prop:=∀i k j,i<n->k<m->j<n->aL R i k=true->aL R k j=true->aL R i j=true
def qC(R:List (List Int))(i j:Nat)(v:Int):List (List Int):=R.set i ((R.getD i []).set j v)
theorem Mw{n:Nat}{R:List (List Int)}(I:gi n R){i j:Nat}(hi:i<n){v:Int}{a:Nat}:(qC R i j v).getD a []=if a=i then(R.getD i []).set j v else R.getD a []:=by
 unfold qC;rw[List.getD_eq_getElem?_getD,List.getElem?_set];by_cases h:i=a
 ·subst h;rw[if_pos rfl,if_pos rfl,if_pos (by rw[I.len];exact hi)];rfl
 ·rw[if_neg h,if_neg (Ne.symm h),<-List.getD_eq_getElem?_getD]
theorem Mv{n:Nat}{R:List (List Int)}(S:gi n R){i j:Nat}(hi:i<n)(V:j<n){a b:Nat}:aL (qC R i j 1) a b=(aL R a b || (a == i&&b == j)):=by
 unfold aL;rw[Mw S hi];by_cases h:a=i
 ·subst h
  rw[if_pos rfl,List.getD_eq_getElem?_getD,List.getElem?_set];by_cases I:j=b
  ·subst I;rw[if_pos rfl,if_pos (by rw[S.row _ hi];exact V)];simp
  ·rw[if_neg I,<-List.getD_eq_getElem?_getD];simp[Ne.symm I]
 ·rw[if_neg h];simp[h]
theorem Mx{n:Nat}{R:List (List Int)}(I:gi n R){i j:Nat}(hi:i<n)(V:j<n):gi n (qC R i j 1):=by
 refine⟨by unfold qC;rw[List.length_set];exact I.len,fun a S=>?_,fun a S=>by rw[Mv I hi V,I.one a S];rfl⟩;rw[Mw I hi];by_cases h:a=i
 ·subst h;rw[if_pos rfl,List.length_set];exact I.row _ hi
 ·rw[if_neg h];exact I.row _ S
def iL(n k:Nat)(I R:List (List Int))(i j:Nat):Prop:=gi n R/\∀a b,a<n->b<n->aL R a b=(aL I a b || (decide (a<i\/(a=i/\b<j))&&aL I a k&&aL I k b))
theorem iL.zero{n k:Nat}{R:List (List Int)}(h:gi n R):iL n k R R 0 0:=⟨h,fun a b _ _=>by
 rw[decide_eq_false (by omega)];simp⟩
theorem iL.bZ{n k i j:Nat}{I R:List (List Int)}(S:gi n I)(h:iL n k I R i j)(hk:k<n){a:Nat}(V:a<n):aL R a k=aL I a k/\aL R k a=aL I k a:=by
 refine⟨?_,?_⟩
 ·rw[h.2 a k V hk,S.one k hk]
  cases aL I a k<;>simp
 ·rw[h.2 k a hk V,S.one k hk]
  cases aL I k a<;>simp
theorem iL.step{n k i j:Nat}{V R:List (List Int)}(h0:gi n V)(h:iL n k V R i j)(hk:k<n)(hi:i<n)(Z:j<n) :
  iL n k V (if(aL R i k&&aL R k j)=true then qC R i j 1 else R) i (j+1):=by
 obtain⟨e1,_⟩:=h.bZ h0 hk hi;obtain⟨_,e2⟩:=h.bZ h0 hk Z;rw[e1,e2]
 have hb:∀a b,(decide (a<i\/(a=i/\b<j+1)):Bool)=(decide (a<i\/(a=i/\b<j)) || (a == i&&b == j)):=fun a b=>by
  by_cases h1:a=i/\b=j
  ·obtain⟨rfl,rfl⟩:=h1;simp
  ·have:(a == i&&b == j)=false:=by
    by_cases I:a=i
    ·rw[beq_eq_false_iff_ne.2 fun W=>h1 ⟨I,W⟩,Bool.and_false]
    ·rw[beq_eq_false_iff_ne.2 I,Bool.false_and]
   rw[this,Bool.or_false];by_cases I:a<i\/(a=i/\b<j)
   ·rw[decide_eq_true I,decide_eq_true (by omega)]
   ·rw[decide_eq_false I,decide_eq_false (by omega)]
 by_cases hc:(aL V i k&&aL V k j)=true
 ·rw[if_pos hc]
  refine⟨Mx h.1 hi Z,fun a b Y S=>?_⟩;rw[Mv h.1 hi Z,h.2 a b Y S,hb];by_cases h1:a=i/\b=j
  ·obtain⟨rfl,rfl⟩:=h1
   rw[Bool.and_eq_true] at hc;rw[hc.1,hc.2];simp
  ·have:(a == i&&b == j)=false:=by
    by_cases I:a=i
    ·rw[beq_eq_false_iff_ne.2 fun W=>h1 ⟨I,W⟩,Bool.and_false]
    ·rw[beq_eq_false_iff_ne.2 I,Bool.false_and]
   rw[this];simp
 ·rw[if_neg hc]
  refine⟨h.1,fun a b Y S=>?_⟩;rw[h.2 a b Y S,hb];by_cases h1:a=i/\b=j
  ·obtain⟨rfl,rfl⟩:=h1
   rw[Bool.not_eq_true] at hc;rw[Bool.and_assoc,Bool.and_assoc,hc];simp
  ·have:(a == i&&b == j)=false:=by
    by_cases I:a=i
    ·rw[beq_eq_false_iff_ne.2 fun W=>h1 ⟨I,W⟩,Bool.and_false]
    ·rw[beq_eq_false_iff_ne.2 I,Bool.false_and]
   rw[this,Bool.or_false]
theorem iL.row{n k i:Nat}{I R:List (List Int)}(h:iL n k I R i n):iL n k I R (i+1) 0:=⟨h.1,fun a b S V=>by
 rw[h.2 a b S V];by_cases h2:a<i\/(a=i/\b<n)
 ·rw[decide_eq_true h2,decide_eq_true (show a<i+1\/(a=i+1/\b<0) by omega)]
 ·rw[decide_eq_false h2,decide_eq_false (show ¬(a<i+1\/(a=i+1/\b<0)) by omega)]⟩
theorem iL.tr{n k:Nat}{V R:List (List Int)}(h0:gi n V)(hk:k<n)(Z:Tr n k V)(h:iL n k V R n 0):Tr n (k+1) R:=fun i m j hi hm W h1 I=>by
 have e:∀{a b},a<n->b<n->aL R a b=(aL V a b || (aL V a k&&aL V k b)):=fun {a b} ha hb=>by
  rw[h.2 a b ha hb,decide_eq_true (.inl ha),Bool.true_and]
 have S:m<n:=by omega
 rw[e hi S] at h1;rw[e S W] at I;rw[e hi W];by_cases Y:m=k
 ·subst Y
  rw[h0.one m S] at h1 I;simp only[Bool.and_true,Bool.true_and,Bool.or_self] at h1 I;rw[h1,I];simp
 ·have hm:m<k:=by omega
  simp only[Bool.or_eq_true,Bool.and_eq_true] at h1 I|-
  rcases h1 with h1 | ⟨h1,h3⟩<;>rcases I with I | ⟨I,h4⟩
  ·exact .inl (Z i m j hi hm W h1 I)
  ·exact .inr ⟨Z i m k hi hm hk h1 I,h4⟩
  ·exact .inr ⟨h1,Z k m j hk hm W h3 I⟩
  ·exact .inr ⟨h1,h4⟩
def om(t:List (List Int)):af:=⟨1,List.replicate t.length 0,List.replicate t.length 0,[0],t⟩
def iU:Nat->List (List Int)
 | 0=>[[0]]
 | 1=>[[0,1],[1,0]]
 | 2=>[[0,1],[1,1]]
 | 3=>[[0,1,2],[1,2,0],[2,0,1]]
 | 4=>[[0,1,2],[1,1,2],[2,2,2]]
 | 5=>[[0,1,2],[1,1,2],[2,1,2]]
 | 6=>[[0,1,2,3],[1,0,2,3],[2,3,2,3],[3,2,2,3]]
 | _=>[[0,1,2],[1,2,2],[2,2,2]]
theorem SD:∀i,i<8->(om (iU i)).Wf:=fun i hi=>by
 match i,hi with
 | 0,_=>exact .of (af.dO.1 (by decide))
 | 1,_=>exact .of (af.dO.1 (by decide))
 | 2,_=>exact .of (af.dO.1 (by decide))
 | 3,_=>exact .of (af.dO.1 (by decide))
 | 4,_=>exact .of (af.dO.1 (by decide))
 | 5,_=>exact .of (af.dO.1 (by decide))
 | 6,_=>exact .of (af.dO.1 (by decide))
 | 7,_=>exact .of (af.dO.1 (by decide))
def xm:af:=⟨2,[0,1,0,0,1],[0,1,0,1,0],[0,1],[[0,-1,2,3,-1],[-1,1,-1,-1,4],[2,-1,2,3,-1],[-1,3,-1,-1,2],[4,-1,4,1,-1]]⟩
theorem aaz:xm.Wf:=.of (af.dO.1 (by decide))
end Go.D3
