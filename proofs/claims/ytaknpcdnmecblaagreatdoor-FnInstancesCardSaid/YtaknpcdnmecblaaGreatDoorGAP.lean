/- PLAIN LAWS: set functors as far as the draws need them. -/
import Derived.Test.YtaknpcdnmecblaaGreatDoorGAA
namespace Go.D3
open Go
set_option maxHeartbeats 4000000
set_option maxRecDepth 100000
structure cD where
 src:aa
 fN:aa
 fm:List (Int)
 fD:List (U)
def cD.cells(x:cD):List D:=[.int .i64 x.src.nd,ints x.src.fr,ints x.src.to,ae U.d U.zero x.src.lf,ae U.d U.zero x.src.rt,.int .i64 x.fN.nd,ints x.fN.fr,ints x.fN.to,ae U.d U.zero x.fN.lf,ae U.d U.zero x.fN.rt,ints x.fm,ae U.d U.zero x.fD]
def cD.d(x:cD):D:=.agg x.cells
def cD.zero:cD:=⟨aa.zero,aa.zero,[],[]⟩
def cD.cost(x:cD):Nat:=aa.cost x.src+aa.cost x.fN+x.fm.length+da U.cost x.fD
theorem aaf:D.slice (.agg [.int .i64 0,ints [],ints [],ae U.d U.zero [],ae U.d U.zero [],.int .i64 0,ints [],ints [],ae U.d U.zero [],ae U.d U.zero [],ints [],ae U.d U.zero []]) []=ae cD.d cD.zero []:=rfl
theorem XJ{n:Nat}:D.slice (.agg [.int .i64 0,ints [],ints [],ae U.d U.zero [],ae U.d U.zero [],.int .i64 0,ints [],ints [],ae U.d U.zero [],ae U.d U.zero [],ints [],ae U.d U.zero []]) (List.replicate n (.agg [.int .i64 0,ints [],ints [],ae U.d U.zero [],ae U.d U.zero [],.int .i64 0,ints [],ints [],ae U.d U.zero [],ae U.d U.zero [],ints [],ae U.d U.zero []]))=ae cD.d cD.zero (List.replicate n cD.zero):=by unfold ae;rw[List.map_replicate];rfl
theorem ZP{l:List cD}{i:Nat}{V:Int}{I:List (Int)}{Y:List (Int)}{S:List (U)}{W:List (U)}{ad:Int}{Z:List (Int)}{ao:List (Int)}{ab:List (U)}{ag:List (U)}{fm:List (Int)}{fD:List (U)}:df (.o (ae cD.d cD.zero l)) [(i,0)] 0 [.int .i64 V,ints I,ints Y,ae U.d U.zero S,ae U.d U.zero W,.int .i64 ad,ints Z,ints ao,ae U.d U.zero ab,ae U.d U.zero ag,ints fm,ae U.d U.zero fD]=.o (ae cD.d cD.zero (l.set i ⟨⟨V,I,Y,S,W⟩,⟨ad,Z,ao,ab,ag⟩,fm,fD⟩)):=mf (n:=12) (fun _=>⟨_,rfl,rfl⟩) rfl
attribute [go_sem] cD.cells.eq_1 cD.d.eq_1 aaf XJ
theorem Og{l:List cD}{V:Int}{I:List (Int)}{Y:List (Int)}{S:List (U)}{W:List (U)}{ad:Int}{Z:List (Int)}{ao:List (Int)}{ab:List (U)}{ag:List (U)}{fm:List (Int)}{fD:List (U)}:(ae cD.d cD.zero l).dh [.agg [.int .i64 V,ints I,ints Y,ae U.d U.zero S,ae U.d U.zero W,.int .i64 ad,ints Z,ints ao,ae U.d U.zero ab,ae U.d U.zero ag,ints fm,ae U.d U.zero fD]]=ae cD.d cD.zero (l++[⟨⟨V,I,Y,S,W⟩,⟨ad,Z,ao,ab,ag⟩,fm,fD⟩]):=kO (f:=cD.d) (x:=⟨⟨V,I,Y,S,W⟩,⟨ad,Z,ao,ab,ag⟩,fm,fD⟩)
attribute [go_sem high] ZP Og
structure dE where
 src:af
 fN:af
 nj:List (Int)
 lJ:List (Int)
def dE.cells(x:dE):List D:=[.int .i64 x.src.ob,ints x.src.fr,ints x.src.to,ints x.src.an,aC x.src.co,.int .i64 x.fN.ob,ints x.fN.fr,ints x.fN.to,ints x.fN.an,aC x.fN.co,ints x.nj,ints x.lJ]
def dE.d(x:dE):D:=.agg x.cells
def dE.zero:dE:=⟨af.zero,af.zero,[],[]⟩
def dE.cost(x:dE):Nat:=af.cost x.src+af.cost x.fN+x.nj.length+x.lJ.length
theorem Z9:D.slice (.agg [.int .i64 0,ints [],ints [],ints [],aC [],.int .i64 0,ints [],ints [],ints [],aC [],ints [],ints []]) []=ae dE.d dE.zero []:=rfl
theorem XD{n:Nat}:D.slice (.agg [.int .i64 0,ints [],ints [],ints [],aC [],.int .i64 0,ints [],ints [],ints [],aC [],ints [],ints []]) (List.replicate n (.agg [.int .i64 0,ints [],ints [],ints [],aC [],.int .i64 0,ints [],ints [],ints [],aC [],ints [],ints []]))=ae dE.d dE.zero (List.replicate n dE.zero):=by unfold ae;rw[List.map_replicate];rfl
theorem ZJ{l:List dE}{i:Nat}{Y:Int}{W:List (Int)}{Z:List (Int)}{I:List (Int)}{V:List (List (Int))}{ag:Int}{ad:List (Int)}{ao:List (Int)}{S:List (Int)}{ab:List (List (Int))}{nj:List (Int)}{lJ:List (Int)}:df (.o (ae dE.d dE.zero l)) [(i,0)] 0 [.int .i64 Y,ints W,ints Z,ints I,aC V,.int .i64 ag,ints ad,ints ao,ints S,aC ab,ints nj,ints lJ]=.o (ae dE.d dE.zero (l.set i ⟨⟨Y,W,Z,I,V⟩,⟨ag,ad,ao,S,ab⟩,nj,lJ⟩)):=mf (n:=12) (fun _=>⟨_,rfl,rfl⟩) rfl
attribute [go_sem] dE.cells.eq_1 dE.d.eq_1 Z9 XD
theorem Oa{l:List dE}{Y:Int}{W:List (Int)}{Z:List (Int)}{I:List (Int)}{V:List (List (Int))}{ag:Int}{ad:List (Int)}{ao:List (Int)}{S:List (Int)}{ab:List (List (Int))}{nj:List (Int)}{lJ:List (Int)}:(ae dE.d dE.zero l).dh [.agg [.int .i64 Y,ints W,ints Z,ints I,aC V,.int .i64 ag,ints ad,ints ao,ints S,aC ab,ints nj,ints lJ]]=ae dE.d dE.zero (l++[⟨⟨Y,W,Z,I,V⟩,⟨ag,ad,ao,S,ab⟩,nj,lJ⟩]):=kO (f:=dE.d) (x:=⟨⟨Y,W,Z,I,V⟩,⟨ag,ad,ao,S,ab⟩,nj,lJ⟩)
attribute [go_sem high] ZJ Oa
end Go.D3
namespace Go.D3
open Go
set_option maxHeartbeats 4000000
set_option maxRecDepth 100000
end Go.D3
namespace Go.D3
open Go
set_option maxHeartbeats 4000000
set_option maxRecDepth 100000
structure Sf where
 ay:af
 sz:List (Int)
 act:List (List (Int))
def Sf.cells(x:Sf):List D:=[.int .i64 x.ay.ob,ints x.ay.fr,ints x.ay.to,ints x.ay.an,aC x.ay.co,ints x.sz,aC x.act]
def Sf.d(x:Sf):D:=.agg x.cells
def Sf.zero:Sf:=⟨af.zero,[],[]⟩
def Sf.cost(x:Sf):Nat:=af.cost x.ay+x.sz.length+da List.length x.act
theorem aae:D.slice (.agg [.int .i64 0,ints [],ints [],ints [],aC [],ints [],aC []]) []=ae Sf.d Sf.zero []:=rfl
theorem XI{n:Nat}:D.slice (.agg [.int .i64 0,ints [],ints [],ints [],aC [],ints [],aC []]) (List.replicate n (.agg [.int .i64 0,ints [],ints [],ints [],aC [],ints [],aC []]))=ae Sf.d Sf.zero (List.replicate n Sf.zero):=by unfold ae;rw[List.map_replicate];rfl
theorem ZO{l:List Sf}{i:Nat}{W:Int}{V:List (Int)}{Y:List (Int)}{I:List (Int)}{S:List (List (Int))}{sz:List (Int)}{act:List (List (Int))}:df (.o (ae Sf.d Sf.zero l)) [(i,0)] 0 [.int .i64 W,ints V,ints Y,ints I,aC S,ints sz,aC act]=.o (ae Sf.d Sf.zero (l.set i ⟨⟨W,V,Y,I,S⟩,sz,act⟩)):=mf (n:=7) (fun _=>⟨_,rfl,rfl⟩) rfl
attribute [go_sem] Sf.cells.eq_1 Sf.d.eq_1 aae XI
theorem Of{l:List Sf}{W:Int}{V:List (Int)}{Y:List (Int)}{I:List (Int)}{S:List (List (Int))}{sz:List (Int)}{act:List (List (Int))}:(ae Sf.d Sf.zero l).dh [.agg [.int .i64 W,ints V,ints Y,ints I,aC S,ints sz,aC act]]=ae Sf.d Sf.zero (l++[⟨⟨W,V,Y,I,S⟩,sz,act⟩]):=kO (f:=Sf.d) (x:=⟨⟨W,V,Y,I,S⟩,sz,act⟩)
attribute [go_sem high] ZO Of
theorem rV(x:Sf):x.d.bA=true:=by simp only[Sf.d,Sf.cells,D.bA,eR,bJ,ow,Bool.and_self]
end Go.D3
namespace Go.D3
def Sf.size(f:Sf)(x:Int):Nat:=(f.sz.getD x.toNat 0).toNat
def Sf.ac(f:Sf)(a:Int)(e:Int):Int:=(f.act.getD a.toNat []).getD e.toNat 0
def Sf.ph(f:Sf)(a:Nat):Bool:=((f.act.getD a []).length:Int) == f.sz.getD (f.ay.fr.getD a 0).toNat 0&&bI (f.sz.getD (f.ay.to.getD a 0).toNat 0) (f.act.getD a [])
def Sf.preB(f:Sf):Bool:=f.ay.cU&&((f.sz.length:Int) == f.ay.ob)&&bI 17 f.sz&&((f.act.length:Int) == f.ay.fr.length)
def Sf.dN(f:Sf):Bool:=f.preB&&cS f.act.length f.ph
theorem af.rD{c:af}(h:c.cU=true):c.Shape:=by
 simp only[af.cU,Bool.and_eq_true] at h;exact af.dO.1 h.1
structure Sf.Shape(f:Sf):Prop where
 cat:f.ay.cU=true
 nC:f.sz.length=f.ay.an.length
 MV:bI 17 f.sz=true
 sN:f.act.length=f.ay.fr.length
 act:∀a,a<f.act.length->f.ph a=true
section
variable{f:Sf}
theorem Sf.uq:f.preB=true↔f.ay.cU=true/\f.sz.length=f.ay.an.length/\bI 17 f.sz=true/\f.act.length=f.ay.fr.length:=by
 simp only[Sf.preB,Bool.and_eq_true,beq_iff_eq];constructor
 ·rintro⟨⟨⟨h1,S⟩,I⟩,V⟩
  have:=(af.rD h1).an;exact⟨h1,by omega,I,by omega⟩
 ·rintro⟨h1,S,I,V⟩
  have:=(af.rD h1).an;exact⟨⟨⟨h1,by omega⟩,I⟩,by omega⟩
theorem Sf.dO:f.dN=true↔f.Shape:=by
 simp only[Sf.dN,Bool.and_eq_true,jG,Sf.uq];exact⟨fun⟨⟨h1,I,S,V⟩,W⟩=>⟨h1,I,S,V,W⟩,fun⟨h1,I,S,V,W⟩=>⟨⟨h1,I,S,V⟩,W⟩⟩
theorem Sf.Shape.cs(h:f.Shape):f.ay.Shape:=af.rD h.cat
theorem Sf.Shape.BP(h:f.Shape){x:Int}(I : 0<=x)(h1:x<f.ay.an.length) : 0<=f.sz.getD x.toNat 0/\f.sz.getD x.toNat 0<=16:=by
 have:=db h.MV (i:=x.toNat) (by have:=h.nC;omega);omega
theorem Sf.Shape.acl(h:f.Shape){a:Nat}(S:a<f.ay.fr.length):(f.act.getD a []).length=f.size (f.ay.fr.getD a 0)/\bI (f.sz.getD (f.ay.to.getD a 0).toNat 0) (f.act.getD a [])=true:=by
 have h1:=h.act a (by rw[h.sN];exact S);simp only[Sf.ph,Bool.and_eq_true,beq_iff_eq] at h1;have I:=h.cs.jO S;have V:=h.BP I.1 I.2;exact⟨by unfold Sf.size;omega,h1.2⟩
theorem Sf.Shape.NU(h:f.Shape){a:Nat}(I:a<f.ay.fr.length){e:Int}(S : 0<=e)(he:e<f.size (f.ay.fr.getD a 0)) : 0<=f.ac a e/\f.ac a e<f.size (f.ay.to.getD a 0):=by
 have h1:=h.acl I;have V:=db h1.2 (i:=e.toNat) (by omega);unfold Sf.ac Sf.size;rw[Int.toNat_natCast];omega
def Sf.eO(f:Sf)(x e:Nat):Bool:=f.ac (f.ay.fG x) e != e
def Sf.jI(f:Sf)(a b e:Nat):Bool:=f.ac (f.ay.bH a b) e != f.ac b (f.ac a e)
def Sf.yW(f:Sf):Option (Nat×Nat):=(List.range f.ay.an.length).findSome? fun(x:Nat)=>(List.range (f.size (x:Int))).findSome? fun e=>if f.eO x e then some (x,e) else none
def Sf.ti(f:Sf)(a b:Nat):Option (Nat×Nat×Nat):=if f.ay.to.getD a 0 == f.ay.fr.getD b 0 then(List.range (f.size (f.ay.fr.getD a 0))).findSome? fun e=>if f.jI a b e then some (a,b,e) else none else none
def Sf.yV(f:Sf):Option (Nat×Nat×Nat):=(List.range f.ay.fr.length).findSome? fun a=>(List.range f.ay.fr.length).findSome? fun b=>f.ti a b
def Sf.fE(f:Sf):Int×Int×Int×Int :=
 match f.yW with
 | some (x,e)=>(1,x,e,0)
 | none=>match f.yV with
  | some (a,b,e)=>(2,a,b,e)
  | none=>(0,0,0,0)
theorem Sf.vD{x e:Nat}(Y:∀W I:Nat,W<x->I<f.size (W:Int)->f.eO W I=false)(hx:x<f.ay.an.length)(h1:∀I,I<e->f.eO x I=false)(he:e<f.size (x:Int))(Z:f.eO x e=true):f.fE=(1,(x:Int),(e:Int),0):=by
 have:f.yW=some (x,e):=lR (i:=x) (r:=(x,e)) _ (fun j V=>gQ _ fun I S=>by rw[Y j I V S];rfl) hx (lR (i:=e) _ (fun j V=>by rw[h1 j V];rfl) he (by rw[Z];rfl));unfold Sf.fE;rw[this]
theorem Sf.Gb(V:∀x e:Nat,x<f.ay.an.length->e<f.size (x:Int)->f.eO x e=false):f.yW=none:=gQ _ fun j W=>gQ _ fun S I=>by rw[V j S W I];rfl
theorem Sf.yX{a b:Nat}(h:∀I,f.ay.to.getD a 0=f.ay.fr.getD b 0->I<f.size (f.ay.fr.getD a 0)->f.jI a b I=false):f.ti a b=none:=by
 unfold Sf.ti;by_cases h5:f.ay.to.getD a 0=f.ay.fr.getD b 0
 ·rw[if_pos (by simpa using h5)]
  exact gQ _ fun e he=>by simp[h e h5 he]
 ·rw[if_neg (by simpa using h5)]
theorem Sf.tl(I:∀x e:Nat,x<f.ay.an.length->e<f.size (x:Int)->f.eO x e=false)
  (h1:∀a b e:Nat,a<f.ay.fr.length->b<f.ay.fr.length->f.ay.to.getD a 0=f.ay.fr.getD b 0->e<f.size (f.ay.fr.getD a 0)->f.jI a b e=false):f.fE=(0,0,0,0):=by
 have:f.yV=none:=gQ _ fun a S=>gQ _ fun b V=>yX fun e=>h1 a b e S V
 unfold Sf.fE;rw[Gb I,this]
theorem Sf.Qa{a b e:Nat}(Z:∀x e:Nat,x<f.ay.an.length->e<f.size (x:Int)->f.eO x e=false)
  (h1:∀V b' I:Nat,V<a->b'<f.ay.fr.length->f.ay.to.getD V 0=f.ay.fr.getD b' 0->I<f.size (f.ay.fr.getD V 0)->f.jI V b' I=false)
  (h2:∀b' I:Nat,b'<b->f.ay.to.getD a 0=f.ay.fr.getD b' 0->I<f.size (f.ay.fr.getD a 0)->f.jI a b' I=false)
  (h3:∀I,I<e->f.jI a b I=false) (ha:a<f.ay.fr.length) (hb:b<f.ay.fr.length) (Y:f.ay.to.getD a 0=f.ay.fr.getD b 0) (he:e<f.size (f.ay.fr.getD a 0)) (h4:f.jI a b e=true):f.fE=(2,(a:Int),(b:Int),(e:Int)):=by
 have hr:f.ti a b=some (a,b,e):=by
  unfold Sf.ti;rw[if_pos (by simpa using Y)];exact lR (i:=e) _ (fun j hj=>by simp[h3 j hj]) he (by simp[h4])
 have:f.yV=some (a,b,e):=lR (i:=a) (r:=(a,b,e)) _ (fun V W=>gQ _ fun b' S=>yX fun I=>h1 V b' I W S) ha
  (lR (i:=b) _ (fun b' S=>yX fun I=>h2 b' I S) hb hr)
 unfold Sf.fE;rw[Gb Z,this]
def Sf.cU(f:Sf):Bool:=f.dN&&f.fE.1 == 0
theorem y8{α:Type}{F:Nat->Option α}{n i:Nat}(h:(List.range n).findSome? F=none)(hi:i<n):F i=none:=by
 rw[List.findSome?_eq_none_iff] at h;exact h i (by simpa using hi)
structure Sf.Ok(f:Sf):Prop extends Sf.Shape f where
 id:∀x e:Nat,x<f.ay.an.length->e<f.size (x:Int)->f.ac (f.ay.fG x) e=e
 co:∀a b e:Nat,a<f.ay.fr.length->b<f.ay.fr.length->f.ay.to.getD a 0=f.ay.fr.getD b 0->e<f.size (f.ay.fr.getD a 0)->f.ac (f.ay.bH a b) e=f.ac b (f.ac a e)
end
end Go.D3
namespace Go.D3
open Go
theorem qD{α:Type}{l:List α}{i j:Nat}{x d:α}(hi:i<l.length):(l.set i x).getD j d=if j=i then x else l.getD j d:=by
 rw[List.getD_eq_getElem?_getD,List.getD_eq_getElem?_getD];by_cases h:j=i
 ·subst h;rw[if_pos rfl,List.getElem?_set_self hi];rfl
 ·rw[if_neg h,List.getElem?_set_ne (Ne.symm h)]
structure qO(n:Int)(c:af)(f:Sf):Prop where
 ay:f.ay=c
 nC:(f.sz.length:Int)=c.ob
 sz:∀x,x<f.sz.length->0<=f.sz.getD x 0/\f.sz.getD x 0<=n
 al:f.act.length=c.fr.length
 row:∀a,a<c.fr.length->((f.act.getD a []).length:Int)=f.sz.getD (c.fr.getD a 0).toNat 0
 yM:∀a i,a<c.fr.length->i<(f.act.getD a []).length->0<=(f.act.getD a []).getD i 0/\(f.act.getD a []).getD i 0<f.sz.getD (c.to.getD a 0).toNat 0
theorem qO.le{n m:Int}{c:af}{f:Sf}(h:qO n c f)(S:∀x,x<f.sz.length->f.sz.getD x 0<=m):qO m c f :=
 ⟨h.ay,h.nC,fun x I=>⟨(h.sz x I).1,S x I⟩,h.al,h.row,h.yM⟩
theorem af.Shape.cost{c:af}(h:c.Shape):af.cost c<=1048576:=by
 have h1:=h.fr;have W:=h.to;have Y:=h.cP;have Z:=h.co
 have key:∀(l:List (List Int))(b:Nat),(∀r∈l,r.length<=b)->(l.map List.length).sum<=l.length*b:=by
  intro l b;induction l with
  | nil=>intro _;simp
  | cons x l V =>
   intro S;have:=S x List.mem_cons_self;have:=V fun r I=>S r (List.mem_cons_of_mem _ I)
   rw[List.map_cons,List.sum_cons,List.length_cons,Nat.succ_mul];omega
 have h5:=key c.co 40 fun r I=>by
  obtain⟨i,hi,rfl⟩:=List.getElem_of_mem I;rw[<-aM (d:=[]) hi,h.row i (by omega)];exact h1
 unfold af.cost da;omega
structure gb(c:af)(ob:List Int)(k h:Nat)(L:List (List (List Int))):Prop where
 len:L.length=c.ob.toNat
 el:∀y r,r∈L.getD y []->∃i j:Nat,r=[(i:Int),(j:Int)]/\i<ob.length/\j<c.fr.length/\c.fr.getD j 0=ob.getD i 0/\c.to.getD j 0=(y:Int)
 al:∀i j:Nat,i<k\/(i=k/\j<h)->j<c.fr.length->c.fr.getD j 0=ob.getD i 0->[(i:Int),(j:Int)]∈L.getD (c.to.getD j 0).toNat []
 sz:∀y,(L.getD y []).length<=k*c.fr.length+h
theorem gb.zero{c:af}{ob:List Int}:gb c ob 0 0 (List.replicate c.ob.toNat []):=by
 have hg:∀y,(List.replicate c.ob.toNat ([]:List (List Int))).getD y []=[]:=fun y=>by
  rw[List.getD_eq_getElem?_getD,List.getElem?_replicate];split<;>rfl
 refine⟨List.length_replicate,fun y r S=>?_,fun i j I=>?_,fun y=>?_⟩
 ·rw[hg] at S;cases S
 ·rcases I with I | ⟨_,I⟩<;>exact absurd I (Nat.not_lt_zero _)
 ·rw[hg];exact Nat.zero_le _
theorem gb.SB{c:af}{ob:List Int}{k h:Nat}{L:List (List (List Int))}(I:gb c ob k h L)(he:c.fr.getD h 0≠ob.getD k 0):gb c ob k (h+1) L:=by
 refine⟨I.len,I.el,fun i j V W S=>?_,fun y=>Nat.le_succ_of_le (I.sz y)⟩;by_cases hk:i=k/\j=h
 ·obtain⟨rfl,rfl⟩:=hk;exact absurd S he
 ·exact I.al i j (by omega) W S
theorem gb.next{c:af}{ob:List Int}{k:Nat}{L:List (List (List Int))}(I:gb c ob k c.fr.length L):gb c ob (k+1) 0 L:=by
 refine⟨I.len,I.el,fun i j V W S=>I.al i j (by omega) W S,fun y=>?_⟩;have:=I.sz y;rw[Nat.succ_mul];omega
theorem gb.hit{c:af}{ob:List Int}{k h t:Nat}{L:List (List (List Int))}(V:gb c ob k h L)(hk:k<ob.length)(hh:h<c.fr.length)(he:c.fr.getD h 0=ob.getD k 0)(ht:c.to.getD h 0=(t:Int))(S:t<L.length) :
  gb c ob k (h+1) (L.set t (L.getD t []++[[(k:Int),(h:Int)]])):=by
 refine⟨by rw[List.length_set];exact V.len,fun y r I=>?_,fun i j ab hj Z=>?_,fun y=>?_⟩
 ·rw[qD S] at I
  split at I
  ·rename_i Y
   subst Y;rcases List.mem_append.1 I with I | I
   ·exact V.el y r I
   ·rw[List.mem_singleton] at I;subst I
    exact⟨k,h,rfl,hk,hh,he,ht⟩
  ·exact V.el y r I
 ·rw[qD S]
  by_cases W:i=k/\j=h
  ·obtain⟨rfl,rfl⟩:=W
   rw[if_pos (by omega)];simp
  ·have:=V.al i j (by omega) hj Z
   split
   ·rename_i hy
    rw[hy] at this;exact List.mem_append_left _ this
   ·exact this
 ·rw[qD S]
  split
  ·have:=V.sz t
   rw[List.length_append,List.length_singleton];omega
  ·have:=V.sz y;omega
theorem gb.step{c:af}(V:c.Shape){ob:List Int}{L:List (List (List Int))}(Y:gb c ob ob.length 0 L){a:Nat}(S:a<c.fr.length){e:Nat}(he:e<(L.getD (c.fr.getD a 0).toNat []).length) :
  ∃(i j:Nat),(L.getD (c.fr.getD a 0).toNat []).getD e []=[(i:Int),(j:Int)]/\j<c.fr.length/\0<=qj (L.getD (c.to.getD a 0).toNat []) [(i:Int),c.bH j a]/\qj (L.getD (c.to.getD a 0).toNat []) [(i:Int),c.bH j a]<(L.getD (c.to.getD a 0).toNat []).length:=by
 have hm:(L.getD (c.fr.getD a 0).toNat []).getD e []∈L.getD (c.fr.getD a 0).toNat []:=by rw[aM he];exact List.getElem_mem _
 obtain⟨i,j,h1,Z,W,h4,h5⟩:=Y.el _ _ hm;have hf:=V.jO S;have ht:=V.lz S;obtain⟨c1,c2,c3,c4⟩:=V.mC W S (by omega);obtain⟨m,hm⟩:∃m:Nat,c.bH j a=m:=⟨(c.bH j a).toNat,by omega⟩;rw[hm,Int.toNat_natCast] at c3 c4;have I:=Y.al i m (.inl Z) (by omega) (by rw[c3,h4]);rw[c4] at I;refine⟨i,j,h1,W,?_⟩;rw[hm];have hl:=List.findIdx_lt_length_of_exists (p:=(·== [(i:Int),(m:Int)])) ⟨_,I,by simp⟩;unfold qj;rw[if_pos hl];exact⟨by omega,by omega⟩
end Go.D3
