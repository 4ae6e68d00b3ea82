/- CONTRACTS: categories: shapes and faults,the reference's side;lists that are compared and looked up. -/
import Derived.Test.YtpjbamibcngihaaGreatDoorGAF
namespace Go.D3
open Go
set_option maxHeartbeats 4000000
set_option maxRecDepth 100000
structure aA where
 ob:Int
 fr:List (Int)
 to:List (Int)
 bz:List (Int)
 co:List (List (Int))
def aA.cells(x:aA):List D:=[.int .i64 x.ob,ints x.fr,ints x.to,ints x.bz,aK x.co]
def aA.d(x:aA):D:=.agg x.cells
def aA.zero:aA:=⟨0,[],[],[],[]⟩
def aA.cost(x:aA):Nat:=x.fr.length+x.to.length+x.bz.length+fy List.length x.co
theorem OS:D.slice (.agg [.int .i64 0,ints [],ints [],ints [],aK []]) []=ae aA.d aA.zero []:=rfl
theorem T8{n:Nat}:D.slice (.agg [.int .i64 0,ints [],ints [],ints [],aK []]) (List.replicate n (.agg [.int .i64 0,ints [],ints [],ints [],aK []]))=ae aA.d aA.zero (List.replicate n aA.zero):=by unfold ae;rw[List.map_replicate];rfl
theorem Ph{l:List aA}{i:Nat}{ob:Int}{fr:List (Int)}{to:List (Int)}{bz:List (Int)}{co:List (List (Int))}:ea (.o (ae aA.d aA.zero l)) [(i,0)] 0 [.int .i64 ob,ints fr,ints to,ints bz,aK co]=.o (ae aA.d aA.zero (l.set i ⟨ob,fr,to,bz,co⟩)):=oI (n:=5) (fun _=>⟨_,rfl,rfl⟩) rfl
attribute [go_sem] aA.cells.eq_1 aA.d.eq_1 OS T8
attribute [go_sem high] Ph
theorem Ar(x:aA):x.d.bl=true:=by simp only[aA.d,aA.cells,D.bl,dE,cW,jP,Bool.and_self]
def w8:List Nat:=[0,1,2,6]
def Dn:Sl:=ak Go.Proofs.Tryz.types Go.Proofs.Tryz.f169 w8 []
theorem Ma:aI Go.Proofs.Tryz.prog Go.Proofs.Tryz.f169 w8 Dn 3=true:=by decide +kernel
theorem Cn(l:List Int)(n ob:Int):aC Go.Proofs.Tryz.prog 169 [.v (ints l),.v (.int .i64 n),.v (.int .i64 ob)] (.bool ((l.length:Int) == n&&bU ob l)):=by
 refine aT Go.Proofs.Tryz.func169 Ma ?_;unfold Dn ak w8;simp only[go_sem];refine bG (fun h=>qf ob l) rfl (fun h=>by simp[h]) (.inl rfl) ?_;simp only[go_sem]
def eW(n:Nat)(p:Nat->Bool):Bool:=(List.range n).all p
theorem zp{n:Nat}{p:Nat->Bool}:eW n p=true↔∀i,i<n->p i=true:=by simp[eW]
theorem y9{n:Nat}{p:Nat->Bool}(h:eW n p=true)(hp:p n=true):eW (n+1) p=true:=by
 rw[zp] at *;intro i hi;by_cases h1:i<n
 ·exact h i h1
 ·rw[show i=n by omega];exact hp
theorem yZ{n i:Nat}{p:Nat->Bool}(hi:i<n)(hp:p i=false):eW n p=false:=by
 cases h:eW n p with
 | false=>rfl
 | true=>rw[zp.1 h i hi] at hp;cases hp
def aA.preB(c:aA):Bool:=aL c.ob 0 8&&decide (c.fr.length<=40)&&bU c.ob c.fr&&((c.to.length:Int) == c.fr.length)&&bU c.ob c.to&&((c.co.length:Int) == c.fr.length)&&((c.bz.length:Int) == c.ob)&&bU c.fr.length c.bz
def aA.mQ(c:aA)(x:Nat):Bool:=c.fr.getD (c.bz.getD x 0).toNat 0 == (x:Int)&&c.to.getD (c.bz.getD x 0).toNat 0 == (x:Int)
def aA.cell(c:aA)(f g:Nat):Int:=(c.co.getD f []).getD g 0
def aA.mj(c:aA)(f g:Nat):Bool :=
 if c.to.getD f 0 != c.fr.getD g 0 then c.cell f g == -1
 else decide (0<=c.cell f g)&&decide (c.cell f g<c.fr.length)&&(c.fr.getD (c.cell f g).toNat 0 == c.fr.getD f 0)&&(c.to.getD (c.cell f g).toNat 0 == c.to.getD g 0)
def aA.mG(c:aA)(f:Nat):Bool:=((c.co.getD f []).length:Int) == c.fr.length&&eW c.fr.length (c.mj f)
def aA.gZ(c:aA):Bool:=c.preB&&eW c.bz.length c.mQ&&eW c.fr.length c.mG
structure aA.Pre(c:aA):Prop where
 rS : 0<=c.ob
 pY:c.ob<=8
 fr:c.fr.length<=40
 JM:bU c.ob c.fr=true
 to:c.to.length=c.fr.length
 JN:bU c.ob c.to=true
 co:c.co.length=c.fr.length
 bz:(c.bz.length:Int)=c.ob
 JW:bU c.fr.length c.bz=true
theorem aA.G4{c:aA}:c.preB=true↔c.Pre:=by
 simp only[aA.preB,aL,Bool.and_eq_true,decide_eq_true_eq,beq_iff_eq];constructor
 ·rintro⟨⟨⟨⟨⟨⟨⟨⟨h1,h2⟩,h3⟩,h4⟩,h5⟩,h6⟩,h7⟩,h8⟩,h9⟩
  exact⟨h1,h2,h3,h4,by omega,h6,by omega,h8,h9⟩
 ·rintro⟨h1,h2,h3,h4,h5,h6,h7,h8,h9⟩
  exact⟨⟨⟨⟨⟨⟨⟨⟨h1,h2⟩,h3⟩,h4⟩,by omega⟩,h6⟩,by omega⟩,h8⟩,h9⟩
structure aA.Shape(c:aA):Prop extends aA.Pre c where
 ids:∀x,x<c.bz.length->c.mQ x=true
 row:∀f,f<c.fr.length->(c.co.getD f []).length=c.fr.length
 cells:∀f g,f<c.fr.length->g<c.fr.length->c.mj f g=true
theorem aA.yu{c:aA}:c.gZ=true↔c.Shape:=by
 simp only[aA.gZ,aA.mG,Bool.and_eq_true,zp,aA.G4,beq_iff_eq];constructor
 ·rintro⟨⟨h1,h2⟩,h3⟩
  exact⟨h1,h2,fun f hf=>by have:=(h3 f hf).1;omega,fun f g hf hg=>(h3 f hf).2 g hg⟩
 ·rintro⟨h1,h2,h3,h4⟩
  exact⟨⟨h1,h2⟩,fun f hf=>⟨by have:=h3 f hf;omega,fun g hg=>h4 f g hf hg⟩⟩
theorem aA.Pre.lB{c:aA}(h:c.Pre):c.bz.length<=8:=by have:=h.bz;have:=h.pY;omega
theorem aA.Pre.idx{c:aA}(h:c.Pre){x:Nat}(hx:x<c.bz.length) : 0<=c.bz.getD x 0/\c.bz.getD x 0<c.fr.length:=dJ h.JW hx
theorem aA.UP{c:aA}{x:Nat}(hx:x<c.bz.length)(h:c.mQ x=false):c.gZ=false:=by
 unfold aA.gZ;rw[yZ hx h];simp
theorem aA.HG{c:aA}{f:Nat}(hf:f<c.fr.length)(h:c.mG f=false):c.gZ=false:=by
 unfold aA.gZ;rw[yZ hf h];simp
theorem aA.GD{c:aA}{f g:Nat}(hf:f<c.fr.length)(hg:g<c.fr.length)(h:c.mj f g=false):c.gZ=false:=by
 refine aA.HG hf ?_;unfold aA.mG;rw[yZ hg h];simp
theorem aA.Rj{c:aA}(hp:c.Pre)(h1:eW c.bz.length c.mQ=true)(h2:eW c.fr.length c.mG=true):c.gZ=true:=by
 unfold aA.gZ;rw[h1,h2,aA.G4.2 hp];rfl
theorem aA.Fp{c:aA}(h:¬c.Pre):c.gZ=false:=by
 cases hs:c.gZ with
 | false=>rfl
 | true=>exact absurd (aA.yu.1 hs).toPre h
theorem vh{P:Nat->Prop}{n:Nat}(h:∀j,j<n->P j)(hn:P n):∀j,j<n+1->P j:=fun j hj=>by
 by_cases h1:j<n
 ·exact h j h1
 ·rw[show j=n by omega];exact hn
theorem kE{α:Type}{F:Nat->Option α}:∀(n:Nat),(∀j,j<n->F j=none)->(List.range n).findSome? F=none:=by
 intro n h;rw[List.findSome?_eq_none_iff];intro x hx;exact h x (by simpa using hx)
theorem qg{α:Type}{F:Nat->Option α}{i:Nat}{r:α}:∀(n:Nat),(∀j,j<i->F j=none)->i<n->F i=some r->(List.range n).findSome? F=some r
 | 0,_,h,_=>by omega
 | n+1,h0,h1,h2=>by
  rw[List.range_succ,List.findSome?_append];by_cases h:i<n
  ·rw[qg n h0 h h2];rfl
  ·have:i=n:=by omega
   subst this;rw[kE i h0];simp[h2]
def aA.dq(c:aA)(f g:Int):Int:=(c.co.getD f.toNat []).getD g.toNat 0
def aA.ky(c:aA)(x:Int):Int:=c.bz.getD x.toNat 0
def aA.p9(c:aA)(f:Nat):Bool:=c.dq (c.ky (c.fr.getD f 0)) f != f || c.dq f (c.ky (c.to.getD f 0)) != f
def aA.fW(c:aA)(f g h:Nat):Bool:=c.to.getD f 0 == c.fr.getD g 0&&c.to.getD g 0 == c.fr.getD h 0&&c.dq (c.dq f g) h != c.dq f (c.dq g h)
def aA.lX(c:aA):Int×Int×Int×Int :=
 match(List.range c.fr.length).findSome? fun f=>if c.p9 f then some f else none with
 | some f=>(1,f,0,0)
 | none=>match(List.range c.fr.length).findSome? fun f=>(List.range c.fr.length).findSome? fun g=>(List.range c.fr.length).findSome? fun h=>if c.fW f g h then some (f,g,h) else none with
  | some (f,g,h)=>(2,f,g,h)
  | none=>(0,0,0,0)
section
variable{c:aA}
theorem aA.Up{f g h:Nat}(h2:c.to.getD f 0≠c.fr.getD g 0):c.fW f g h=false:=by unfold aA.fW;rw[beq_eq_false_iff_ne.2 h2];rfl
theorem aA.Uk{f g h:Nat}(h2:c.to.getD f 0=c.fr.getD g 0):c.fW f g h=(c.to.getD g 0 == c.fr.getD h 0&&c.dq (c.dq f g) h != c.dq f (c.dq g h)):=by unfold aA.fW;rw[beq_iff_eq.2 h2];rfl
theorem aA.QK{f:Nat}(h0:∀j,j<f->c.p9 j=false)(h1:f<c.fr.length)(h2:c.p9 f=true):c.lX=(1,(f:Int),0,0):=by
 unfold aA.lX;rw[qg (i:=f) (r:=f) _ (fun j hj=>by simp[h0 j hj]) h1 (by simp[h2])]
theorem aA.Qi(h0:∀j,j<c.fr.length->c.p9 j=false)(h:∀f g h,f<c.fr.length->g<c.fr.length->h<c.fr.length->c.fW f g h=false):c.lX=(0,0,0,0):=by
 unfold aA.lX;rw[kE _ (fun j hj=>by simp[h0 j hj])];simp only;rw[kE _ fun f hf=>kE _ fun g hg=>kE _ fun h' hh=>by simp[h f g h' hf hg hh]]
theorem aA.RC{f g h:Nat}(h0:∀j,j<c.fr.length->c.p9 j=false)(hf:f<c.fr.length)(hg:g<c.fr.length)(hh:h<c.fr.length)(h1:c.fW f g h=true)
  (h2:∀h',h'<h->c.fW f g h'=false) (h3:∀g' h',g'<g->h'<c.fr.length->c.fW f g' h'=false) (h4:∀f' g' h',f'<f->g'<c.fr.length->h'<c.fr.length->c.fW f' g' h'=false):c.lX=(2,(f:Int),(g:Int),(h:Int)):=by
 unfold aA.lX;rw[kE _ (fun j hj=>by simp[h0 j hj])];simp only
 rw[qg (i:=f) (r:=(f,g,h)) _ (fun f' hf'=>kE _ fun g' hg'=>kE _ fun h' hh'=>by simp[h4 f' g' h' hf' hg' hh']) hf
  (qg (i:=g) _ (fun g' hg'=>kE _ fun h' hh'=>by simp[h3 g' h' hg' hh']) hg (qg (i:=h) _ (fun h' hh'=>by simp[h2 h' hh']) hh (by simp[h1])))]
theorem aA.Shape.mZ(hs:c.Shape){f:Nat}(hf:f<c.fr.length) : 0<=c.fr.getD f 0/\c.fr.getD f 0<c.bz.length:=by
 have:=dJ hs.JM hf;have:=hs.bz;omega
theorem aA.Shape.mP(hs:c.Shape){f:Nat}(hf:f<c.fr.length) : 0<=c.to.getD f 0/\c.to.getD f 0<c.bz.length:=by
 have:=dJ hs.JN (i:=f) (by have:=hs.to;omega);have:=hs.bz;omega
theorem aA.Shape.BI(hs:c.Shape){x:Int}(h0 : 0<=x)(h1:x<c.bz.length) : 0<=c.ky x/\c.ky x<c.fr.length:=hs.toPre.idx (x:=x.toNat) (by omega)
theorem aA.Shape.Jz(hs:c.Shape){f:Int}(h0 : 0<=f)(h1:f<c.fr.length):(c.co.getD f.toNat []).length=c.fr.length:=hs.row f.toNat (by omega)
theorem aA.Shape.tE(hs:c.Shape){f g:Nat}(hf:f<c.fr.length)(hg:g<c.fr.length)(h:c.to.getD f 0=c.fr.getD g 0) : 0<=c.dq f g/\c.dq f g<c.fr.length/\c.fr.getD (c.dq f g).toNat 0=c.fr.getD f 0/\c.to.getD (c.dq f g).toNat 0=c.to.getD g 0:=by
 have hc:=hs.cells f g hf hg;unfold aA.mj at hc;rw[if_neg (by simp only[h,bne_self_eq_false];decide)] at hc;have e:c.cell f g=c.dq f g:=by simp[aA.cell,aA.dq]
 simp only[e,Bool.and_eq_true,decide_eq_true_eq,beq_iff_eq] at hc;exact⟨hc.1.1.1,hc.1.1.2,hc.1.2,hc.2⟩
end
def fd(r:Int×Int×Int×Int):D:=.au [.int .i64 r.1,.int .i64 r.2.1,.int .i64 r.2.2.1,.int .i64 r.2.2.2]
def aA.vr(c:aA):Bool:=c.gZ&&c.lX.1 == 0
def xk:List Nat:=[0,2,1,3,4,5,6,7]
def Dc:Sl:=ak Go.Proofs.Tryz.types Go.Proofs.Tryz.f149 xk []
theorem Mn:aI Go.Proofs.Tryz.prog Go.Proofs.Tryz.f149 xk Dc 1=true:=by decide +kernel
theorem Lr(c:aA):aC Go.Proofs.Tryz.prog 149 [.v c.d] (.bool c.gZ):=by
 refine aT Go.Proofs.Tryz.func149 Mn ?_;unfold Dc ak xk;simp only[go_sem];refine ax (jK _ _ _) rfl (.inl rfl) ?_;simp only[go_sem];refine⟨fun h=>by simpa using h,?_⟩;refine bG (fun h=>Cn c.fr c.fr.length c.ob) rfl (fun h=>by simpa using h) (.inl rfl) ?_;simp only[go_sem];refine⟨fun h=>by simp_all,?_⟩;refine bG (fun h=>Cn c.to c.fr.length c.ob) rfl (fun h=>by simpa using h) (.inl rfl) ?_;simp only[go_sem];refine⟨fun h=>by simp_all,fun h=>by simp_all,fun h=>?_,fun h=>?_⟩
 ·symm;refine aA.Fp fun hp=>?_
  have h1:aL c.ob 0 8=true:=by simp[aL,hp.rS,hp.pY]
  have h2:=hp.fr;simp[h1,hp.JM,hp.to,hp.JN,hp.co] at h;omega
 refine bG (fun h=>qf c.fr.length c.bz) rfl (fun h=>by simpa using h) (.inl rfl) ?_;simp only[go_sem];refine⟨fun h=>by simp_all,fun h2=>?_,fun h2=>?_⟩
 ·symm;refine aA.Fp fun hp=>?_
  simp[hp.bz,hp.JW] at h2
 have hp:c.Pre:=by
  simp only[Bool.or_eq_false_iff,Bool.not_eq_false',bne_eq_false_iff_eq,decide_eq_false_iff_not,aL,Bool.and_eq_true,decide_eq_true_eq,beq_iff_eq] at h h2;obtain⟨⟨⟨⟨h1,h3⟩,h4⟩,h5⟩,h6⟩:=h;exact⟨h1.1,h1.2,by omega,h4.2,by omega,h5.2,by omega,h2.1,h2.2⟩
 clear h h2;refine aG [] (fun(x:Nat)=>[(4,.int .i64 x)]) (fun x=>x<=c.bz.length/\eW x c.mQ=true) (fun x=>c.bz.length-x) 0 rfl ⟨Nat.zero_le _,rfl⟩ rfl ?_;rintro x ⟨hx,ha⟩;simp only[go_sem];have hob:=hp.bz;refine⟨fun h=>?_,fun h=>?_⟩
 ·have hx':x<c.bz.length:=by omega
  have hid:=hp.idx hx';have hto:=hp.to;refine⟨hx',hid,fun h=>⟨h,hx'⟩,fun h=>⟨h,hid.1,by omega⟩,fun h=>by simpa using h,fun h=>?_,fun h=>?_⟩
  ·exact(aA.UP hx' (by simp only[aA.mQ];rw[Bool.or_eq_true,bne_iff_ne,bne_iff_ne] at h;rw[Bool.and_eq_false_iff,beq_eq_false_iff_ne,beq_eq_false_iff_ne];exact h)).symm
  ·exact⟨x+1,⟨by omega,y9 ha (by simpa[aA.mQ] using h)⟩,by omega,by rw[aN hx' (by have:=hp.lB;simp only[maxLen];omega)]⟩
 have hx':x=c.bz.length:=by omega
 subst hx';have hm:=hp.fr;have hco:=hp.co;have hto:=hp.to;refine aG [6,7] (fun(f:Nat)=>[(5,.int .i64 f)]) (fun f=>f<=c.fr.length/\eW f c.mG=true) (fun f=>c.fr.length-f) 0 rfl ⟨Nat.zero_le _,rfl⟩ rfl ?_;rintro f ⟨hf,hb⟩;simp only[go_sem];refine⟨fun hfl=>⟨by omega,fun h2=>?_,fun h2=>?_⟩,fun h=>?_⟩
 ·exact(aA.HG hfl (by simp only[aA.mG];rw[Bool.and_eq_false_iff];left;simpa using h2)).symm
 ·refine aG [7] (fun(g:Nat)=>[(6,.int .i64 g)]) (fun g=>g<=c.fr.length/\eW g (c.mj f)=true) (fun g=>c.fr.length-g) 0 rfl ⟨Nat.zero_le _,rfl⟩ rfl ?_
  rintro g ⟨hg,hc⟩;simp only[go_sem]
  have hrow:(c.co.getD f []).length=c.fr.length:=by
   rw[bne_eq_false_iff_eq] at h2;omega
  have hcb:c.mj f g=if c.to.getD f 0 != c.fr.getD g 0 then(c.co.getD f []).getD g 0 == -1
   else decide (0<=(c.co.getD f []).getD g 0)&&decide ((c.co.getD f []).getD g 0<c.fr.length)&&(c.fr.getD ((c.co.getD f []).getD g 0).toNat 0 == c.fr.getD f 0)&&(c.to.getD ((c.co.getD f []).getD g 0).toNat 0 == c.to.getD g 0):=rfl
  generalize(c.co.getD f []).getD g 0=h at hcb;refine⟨fun hgl=>?_,fun hgl=>?_⟩
  ·have step:c.mj f g=true->∃x',(x'<=c.fr.length/\eW x' (c.mj f)=true)/\c.fr.length-x'<c.fr.length-g/\IntKind.i64.wrap ((g:Int)+1)=(x':Int):=fun hh=>⟨g+1,⟨by omega,y9 hc hh⟩,by omega,aN hgl (by simp only[maxLen];omega)⟩
   refine⟨by omega,by omega,by omega,hgl,fun h3=>⟨fun h4=>?_,fun h4=>?_⟩,fun h3=>⟨fun h4=>by simp_all,fun h4=>⟨h4,by simp at h4;omega⟩,fun h4=>⟨h4,by omega⟩,fun h4=>by simpa only[<-Bool.not_or,Bool.not_eq_true'] using h4,fun h4=>⟨h4,by simp at h4;omega⟩,fun h4=>⟨h4,by omega⟩,fun h4=>by simpa only[<-Bool.not_or,Bool.not_eq_true'] using h4,fun h4=>?_,fun h4=>?_⟩⟩
   ·exact(aA.GD hfl hgl (by rw[hcb,if_pos h3];simpa using h4)).symm
   ·obtain⟨x',e1,e2,e3⟩:=step (by rw[hcb,if_pos h3];simpa using h4)
    exact⟨x',e1,e2,by rw[e3]⟩
   ·refine(aA.GD hfl hgl ?_).symm
    rw[hcb,if_neg (by rw[h3];decide)];simp only[Bool.or_eq_true,decide_eq_true_eq,bne_iff_ne] at h4;simp only[Bool.and_eq_false_iff,decide_eq_false_iff_not,beq_eq_false_iff_ne];omega
   ·obtain⟨x',e1,e2,e3⟩:=step (by
     rw[hcb,if_neg (by rw[h3];decide)];simp only[Bool.or_eq_false_iff,decide_eq_false_iff_not,bne_eq_false_iff_eq] at h4;simp only[Bool.and_eq_true,decide_eq_true_eq,beq_iff_eq]
     omega)
    exact⟨x',e1,e2,by rw[e3]⟩
  ·have:g=c.fr.length:=by omega
   subst this;refine⟨f+1,⟨by omega,y9 hb (by simp only[aA.mG];rw[hc,hrow];simp)⟩,by omega,by rw[aN hfl (by simp only[maxLen];omega)]⟩
 ·have:f=c.fr.length:=by omega
  subst this;exact(aA.Rj hp ha hb).symm
def wz:List Nat:=[0,2,3,4,5,1,6,7,8,9,10]
def CM:Sl:=ak Go.Proofs.Tryz.types Go.Proofs.Tryz.f150 wz []
theorem Ly:aI Go.Proofs.Tryz.prog Go.Proofs.Tryz.f150 wz CM 1=true:=by decide +kernel
theorem K0(c:aA)(hs:c.Shape):aC Go.Proofs.Tryz.prog 150 [.v c.d] (fd c.lX):=by
 have hm:=hs.fr;have hml:c.fr.length<=maxLen:=by simp only[maxLen];omega
 have hto:=hs.to;have hco:=hs.co;have cI:∀f g:Int,(c.co.getD f.toNat []).getD g.toNat 0=c.dq f g:=fun _ _=>rfl
 have iI:∀x:Int,c.bz.getD x.toNat 0=c.ky x:=fun _=>rfl
 refine aT Go.Proofs.Tryz.func150 Ly ?_;unfold CM ak wz;simp only[go_sem];refine aG [] (fun(f:Nat)=>[(7,.int .i64 f)]) (fun f=>f<=c.fr.length/\∀j,j<f->c.p9 j=false) (fun f=>c.fr.length-f) 0 rfl ⟨Nat.zero_le _,fun j hj=>by omega⟩ rfl ?_;rintro f ⟨hf,ha⟩;simp only[go_sem];refine⟨fun h=>?_,fun h=>?_⟩
 ·have e1:=hs.mZ h
  have e2:=hs.BI e1.1 e1.2;have e3:=hs.Jz e2.1 e2.2;have e4:=hs.mP h;have e5:=hs.BI e4.1 e4.2;have e6:=hs.row f h;simp only[aA.ky] at e2 e3 e5;refine⟨h,e1,⟨e2.1,by omega⟩,by omega,fun h2=>⟨h2,by omega⟩,fun h2=>⟨h2,by omega⟩,fun h2=>⟨h2,e4⟩,fun h2=>⟨h2,e5.1,by omega⟩,fun h2=>by simpa only[Bool.not_eq_true'] using h2,fun h2=>?_,fun h2=>?_⟩
  ·rw[aA.QK ha h h2];rfl
  ·exact⟨f+1,⟨by omega,fun j hj=>by by_cases hjf:j<f;exact ha j hjf;rw[show j=f by omega];exact h2⟩,by omega,by rw[aN h hml]⟩
 have:f=c.fr.length:=by omega
 subst this;refine aG [9,10] (fun(f:Nat)=>[(8,.int .i64 f)]) (fun f=>f<=c.fr.length/\∀f' g' h',f'<f->g'<c.fr.length->h'<c.fr.length->c.fW f' g' h'=false) (fun f=>c.fr.length-f) 0 rfl ⟨Nat.zero_le _,fun _ _ _ hj=>by omega⟩ rfl ?_;rintro f ⟨hf,hb⟩;simp only[go_sem];refine⟨fun hfl=>?_,fun h=>?_⟩
 ·refine aG [10] (fun(g:Nat)=>[(9,.int .i64 g)]) (fun g=>g<=c.fr.length/\∀g' h',g'<g->h'<c.fr.length->c.fW f g' h'=false) (fun g=>c.fr.length-g) 0 rfl ⟨Nat.zero_le _,fun _ _ hj=>by omega⟩ rfl ?_
  rintro g ⟨hg,hc⟩;simp only[go_sem];refine⟨fun hgl=>⟨by omega,hgl,fun h2=>?_,fun h2=>?_⟩,fun h=>?_⟩
  ·refine⟨g+1,⟨by omega,fun g' h' hg' hh'=>vh (P:=fun g'=>c.fW f g' h'=false) (fun j hj=>hc j h' hj hh') ?_ g' hg'⟩,by omega,by rw[aN hgl hml]⟩
   rw[bne_iff_ne] at h2;exact aA.Up h2
  ·rw[bne_eq_false_iff_eq] at h2
   have e1:=hs.tE hfl hgl h2;refine aG [] (fun(h:Nat)=>[(10,.int .i64 h)]) (fun h=>h<=c.fr.length/\∀h',h'<h->c.fW f g h'=false) (fun h=>c.fr.length-h) 0 rfl ⟨Nat.zero_le _,fun _ hj=>by omega⟩ rfl ?_;rintro h ⟨hh,hd⟩;simp only[go_sem];have e3:=hs.Jz e1.1 e1.2.1;have e4:=hs.row f hfl;have e5:=hs.row g hgl;have hasf:=fun h=>aA.Uk (h:=h) h2
   refine⟨fun hhl=>?_,fun h3=>?_⟩
   ·have e6:=hs.tE hgl hhl
    refine⟨by omega,hhl,fun h3=>⟨h3,by omega⟩,fun h3=>⟨h3,by omega⟩,fun h3=>⟨h3,e1.1,by rw[hco];exact e1.2.1⟩,fun h3=>⟨h3,Nat.lt_of_lt_of_eq hhl e3.symm⟩,fun h3=>⟨h3,by omega⟩,fun h3=>⟨h3,by omega⟩,fun h3=>⟨h3,by omega⟩,
     fun h3=>⟨h3,(e6 h3).1,by rw[e4];exact(e6 h3).2.1⟩,fun h3=>?_,fun h3=>?_⟩
    ·rw[aA.RC ha hfl hgl hhl (by rw[hasf];exact h3) hd hc hb];rfl
    ·exact⟨h+1,⟨by omega,vh hd (by rw[hasf];exact h3)⟩,by omega,by rw[aN hhl hml]⟩
   ·have:h=c.fr.length:=by omega
    subst this;exact⟨g+1,⟨by omega,fun g' h' hg' hh'=>vh (P:=fun g'=>c.fW f g' h'=false) (fun j hj=>hc j h' hj hh') (hd h' hh') g' hg'⟩,by omega,by rw[aN hgl hml]⟩
  ·refine⟨f+1,⟨by omega,fun f' g' h' hf' hg' hh'=>vh (P:=fun f'=>c.fW f' g' h'=false) (fun j hj=>hb j g' h' hj hg' hh') (hc g' h' (by omega) hh') f' hf'⟩,by omega,by rw[aN hfl hml]⟩
 ·have:f=c.fr.length:=by omega
  subst this;rw[aA.Qi ha hb];rfl
def xO:List Nat:=[0,2,1,3]
def D1:Sl:=ak Go.Proofs.Tryz.types Go.Proofs.Tryz.f118 xO []
theorem MU:aI Go.Proofs.Tryz.prog Go.Proofs.Tryz.f118 xO D1 1=true:=by decide +kernel
theorem Mv(c:aA):aC Go.Proofs.Tryz.prog 118 [.v c.d] (.bool c.vr):=by
 refine aT Go.Proofs.Tryz.func118 MU ?_;unfold D1 ak xO;simp only[go_sem];refine ax (Lr c) rfl (.inl rfl) ?_;simp only[go_sem];refine⟨fun h=>?_,fun h=>?_⟩
 ·unfold aA.vr;rw[Bool.not_eq_true'] at h;rw[h];rfl
 rw[Bool.not_eq_false'] at h;refine ax (K0 c (aA.yu.1 h)) rfl (.inl rfl) ?_;simp only[fd];simp only[go_sem];unfold aA.vr;rw[h];rfl
def xB:List Nat:=[0,2,1]
def DI:Sl:=ak Go.Proofs.Tryz.types Go.Proofs.Tryz.f120 xB []
theorem My:aI Go.Proofs.Tryz.prog Go.Proofs.Tryz.f120 xB DI 1=true:=by decide +kernel
theorem wY(a:aA)(hs:aA.cost a<=1048576):aC Go.Proofs.Tryz.prog 120 [.v (aA.d a)] (aA.d a):=by
 unfold aA.cost at hs;refine aT Go.Proofs.Tryz.func120 My ?_;unfold DI ak xB;simp only[go_sem];refine ax (iy a.fr (by omega)) rfl (.inl (cW _)) ?_;simp only[go_sem];refine ax (iy a.to (by omega)) rfl (.inl (cW _)) ?_;simp only[go_sem];refine ax (iy a.bz (by omega)) rfl (.inl (cW _)) ?_;simp only[go_sem];refine ax (Cl a.co (by omega)) rfl (.inl (jP _)) ?_;simp only[go_sem]
 all_goals rfl
def gu(l:List Int)(x:Int):Int:=if l.findIdx (·== x)<l.length then((l.findIdx (·== x):Nat):Int) else -1
def wF:List Nat:=[0,1,4,5]
def CZ:Sl:=ak Go.Proofs.Tryz.types Go.Proofs.Tryz.f170 wF []
theorem LQ:aI Go.Proofs.Tryz.prog Go.Proofs.Tryz.f170 wF CZ 2=true:=by decide +kernel
theorem B8(l:List Int)(x:Int)(hl:l.length<=1048576):aC Go.Proofs.Tryz.prog 170 [.v (ints l),.v (.int .i64 x)] (.int .i64 (gu l x)):=by
 refine aT Go.Proofs.Tryz.func170 LQ ?_;unfold CZ ak wF;simp only[go_sem];refine aG [] (fun i:Nat=>[(3,.int .i64 i)]) (fun i=>i<=l.findIdx (·== x)) (fun i=>l.length-i) 0 (by simp only[go_sem];rfl) (Nat.zero_le _) rfl ?_;intro i hi;have hfl:=List.findIdx_le_length (p:=(·== x)) (xs:=l);simp only[go_sem];refine⟨fun h1=>⟨h1,fun h2=>?_,fun h2=>⟨i+1,?_,by omega,by rw[aN h1 (by simp only[maxLen];omega)]⟩⟩,fun h1=>?_⟩
 ·have:l.findIdx (·== x)<=i:=by
   apply Nat.le_of_not_lt;intro hh;have:=List.not_of_lt_findIdx hh;rw[<-aS (d:=0) h1,h2] at this;simp at this
  have e:l.findIdx (·== x)=i:=by omega
  unfold gu;rw[e,if_pos h1]
 ·by_cases hlt:i<l.findIdx (·== x)
  ·omega
  ·have e:l.findIdx (·== x)=i:=by omega
   have:=List.findIdx_getElem (w:=show l.findIdx (·== x)<l.length by omega);simp only[e] at this;rw[<-aS (d:=0) h1,h2] at this;cases this
 ·unfold gu
  rw[if_neg (by omega)]
def wU:List Nat:=[0,1,2,6,3]
def Dh:Sl:=ak Go.Proofs.Tryz.types Go.Proofs.Tryz.f122 wU []
theorem L7:aI Go.Proofs.Tryz.prog Go.Proofs.Tryz.f122 wU Dh 3=true:=by decide +kernel
theorem LK(c:aA)(f g:Int)(h0 : 0<=f)(h1:f<c.co.length)(h2 : 0<=g)(h3:g<(c.co.getD f.toNat []).length):aC Go.Proofs.Tryz.prog 122 [.v c.d,.v (.int .i64 f),.v (.int .i64 g)] (.int .i64 (c.dq f g)):=by
 refine aT Go.Proofs.Tryz.func122 L7 ?_;unfold Dh ak wU;simp only[go_sem];exact⟨⟨h0,h1⟩,⟨h2,h3⟩,rfl⟩
def lexB:List Int->List Int->Bool
 | [],[]=>false
 | [],_::_=>true
 | _::_,[]=>false
 | a::l,b::r=>if a=b then lexB l r else decide (a<b)
theorem OZ{a b:List Int}{i:Nat}(ha:i<a.length)(hb:i<b.length)(h:a.getD i 0=b.getD i 0):lexB (a.drop i) (b.drop i)=lexB (a.drop (i+1)) (b.drop (i+1)):=by
 rw[aS ha,aS hb] at h;rw[List.drop_eq_getElem_cons ha,List.drop_eq_getElem_cons hb];simp only[lexB,h,if_true]
def xl:List Nat:=[0,1,4,5]
def DB:Sl:=ak Go.Proofs.Tryz.types Go.Proofs.Tryz.f167 xl []
theorem LV:aI Go.Proofs.Tryz.prog Go.Proofs.Tryz.f167 xl DB 2=true:=by decide +kernel
theorem Lj(a b:List Int)(hl:a.length<=1048576):aC Go.Proofs.Tryz.prog 167 [.v (ints a),.v (ints b)] (.bool (lexB a b)):=by
 refine aT Go.Proofs.Tryz.func167 LV ?_;unfold DB ak xl;simp only[go_sem];refine aG [] (fun i:Nat=>[(3,.int .i64 i)]) (fun i=>i<=a.length/\i<=b.length/\lexB a b=lexB (a.drop i) (b.drop i)) (fun i=>a.length-i) 0 (by simp only[go_sem];rfl) ⟨Nat.zero_le _,Nat.zero_le _,rfl⟩ rfl ?_;rintro i ⟨hi,hi2,hs⟩;simp only[go_sem];refine⟨fun h=>?_,fun h=>?_⟩
 ·simp only[Bool.and_eq_true,decide_eq_true_eq] at h
  refine⟨h.1,h.2,fun h2=>⟨h.1,h.2,?_⟩,fun h2=>⟨i+1,⟨h.1,h.2,?_⟩,by omega,by rw[aN h.1 (by simp only[maxLen];omega)]⟩⟩
  ·have h3:a.getD i 0≠b.getD i 0:=by simpa using h2
   rw[hs,List.drop_eq_getElem_cons h.1,List.drop_eq_getElem_cons h.2];rw[aS h.1,aS h.2] at h3|-
   simp only[lexB,if_neg h3]
  ·have h3:a.getD i 0=b.getD i 0:=by simpa using h2
   rw[hs,OZ h.1 h.2 h3]
 ·rw[hs]
  by_cases h1:i<a.length
  ·have h2:¬i<b.length:=by simp only[h1,decide_true,Bool.true_and,decide_eq_false_iff_not] at h;exact h
   rw[List.drop_eq_getElem_cons h1,List.drop_eq_nil_of_le (show b.length<=i by omega)];simp only[lexB,decide_eq_false_iff_not];omega
  ·rw[List.drop_eq_nil_of_le (show a.length<=i by omega)]
   by_cases h2:i<b.length
   ·rw[List.drop_eq_getElem_cons h2];simp only[lexB,decide_eq_true_eq];omega
   ·rw[List.drop_eq_nil_of_le (show b.length<=i by omega)];simp only[lexB,decide_eq_false_iff_not];omega
def xd:List Nat:=[0,1,4,5]
def Df:Sl:=ak Go.Proofs.Tryz.types Go.Proofs.Tryz.f148 xd []
theorem Mq:aI Go.Proofs.Tryz.prog Go.Proofs.Tryz.f148 xd Df 2=true:=by decide +kernel
theorem r9(a b:List Int)(hl:a.length<=1048576):aC Go.Proofs.Tryz.prog 148 [.v (ints a),.v (ints b)] (.bool (a == b)):=by
 refine aT Go.Proofs.Tryz.func148 Mq ?_;unfold Df ak xd;simp only[go_sem];refine⟨fun h=>?_,fun h=>?_⟩
 ·have:a≠b:=fun e=>by subst e;simp at h
  simpa using this
 have hab:a.length=b.length:=by simp at h;omega
 refine aG [] (fun i:Nat=>[(3,.int .i64 i)]) (fun i=>i<=a.length/\∀j,j<i->a.getD j 0=b.getD j 0) (fun i=>a.length-i) 0 (by simp only[go_sem];rfl) ⟨Nat.zero_le _,fun j hj=>by omega⟩ rfl ?_;rintro i ⟨hi,hs⟩;simp only[go_sem];refine⟨fun h1=>⟨h1,by omega,fun h2=>?_,fun h2=>⟨i+1,⟨by omega,fun j hj=>?_⟩,by omega,by rw[aN h1 (by simp only[maxLen];omega)]⟩⟩,fun h1=>?_⟩
 ·have:a≠b:=fun e=>by subst e;simp at h2
  simpa using this
 ·by_cases hji:j=i
  ·subst hji;simpa using h2
  ·exact hs j (by omega)
 ·have:a=b:=by
   apply List.ext_getElem hab;intro j h3 h4;have:=hs j (by omega)
   rwa [aS h3,aS h4] at this
  simpa using this
def nY(l:List (List Int))(x:List Int):Int:=if l.findIdx (·== x)<l.length then((l.findIdx (·== x):Nat):Int) else -1
def wE:List Nat:=[0,1,4,5]
def CE:Sl:=ak Go.Proofs.Tryz.types Go.Proofs.Tryz.f121 wE []
theorem LN:aI Go.Proofs.Tryz.prog Go.Proofs.Tryz.f121 wE CE 2=true:=by decide +kernel
theorem Le(l:List (List Int))(x:List Int)(hl:l.length<=1048576)(hx:∀i,i<l.length->(l.getD i []).length<=1048576):aC Go.Proofs.Tryz.prog 121 [.v (aK l),.v (ints x)] (.int .i64 (nY l x)):=by
 refine aT Go.Proofs.Tryz.func121 LN ?_;unfold CE ak wE;simp only[go_sem];refine aG [] (fun i:Nat=>[(3,.int .i64 i)]) (fun i=>i<=l.findIdx (·== x)) (fun i=>l.length-i) 0 (by simp only[go_sem];rfl) (Nat.zero_le _) rfl ?_;intro i hi;have hfl:=List.findIdx_le_length (p:=(·== x)) (xs:=l);simp only[go_sem];refine⟨fun h1=>⟨h1,ax (r9 _ x (hx i h1)) rfl (.inl rfl) ?_⟩,fun h1=>?_⟩
 ·simp only[go_sem]
  refine⟨fun h2=>?_,fun h2=>⟨i+1,?_,by omega,by rw[aN h1 (by simp only[maxLen];omega)]⟩⟩
  ·have:l.findIdx (·== x)<=i:=by
    apply Nat.le_of_not_lt;intro hh;have:=List.not_of_lt_findIdx hh;rw[<-aS (d:=[]) h1,h2] at this;simp at this
   have e:l.findIdx (·== x)=i:=by omega
   unfold nY;rw[e,if_pos h1]
  ·by_cases hlt:i<l.findIdx (·== x)
   ·omega
   ·have e:l.findIdx (·== x)=i:=by omega
    have:=List.findIdx_getElem (w:=show l.findIdx (·== x)<l.length by omega);simp only[e] at this;rw[<-aS (d:=[]) h1,h2] at this;cases this
 ·unfold nY
  rw[if_neg (by omega)]
end Go.D3
