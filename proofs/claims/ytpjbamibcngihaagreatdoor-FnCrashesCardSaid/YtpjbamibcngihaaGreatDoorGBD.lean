/- CONTRACTS: categories: shapes and faults, the reference's side; lists that are compared and looked up. -/
import Derived.Test.YtpjbamibcngihaaGreatDoorGAF
namespace Go.D3
open Go
set_option maxHeartbeats 4000000
set_option maxRecDepth 100000
structure aA where
 ob:Int
 fr:List (Int)
 to:List (Int)
 bC:List (Int)
 co:List (List (Int))
def aA.cells(x:aA):List D:=[.int .i64 x.ob,ints x.fr,ints x.to,ints x.bC,aI x.co]
def aA.d(x:aA):D:=.agg x.cells
def aA.zero:aA:=⟨0,[],[],[],[]⟩
def aA.cost(x:aA):Nat:=x.fr.length+x.to.length+x.bC.length+fM List.length x.co
theorem V5:D.slice (.agg [.int .i64 0,ints [],ints [],ints [],aI []]) []=ae aA.d aA.zero []:=rfl
theorem TU{n:Nat}:D.slice (.agg [.int .i64 0,ints [],ints [],ints [],aI []]) (List.replicate n (.agg [.int .i64 0,ints [],ints [],ints [],aI []]))=ae aA.d aA.zero (List.replicate n aA.zero):=by unfold ae;rw[List.map_replicate];rfl
theorem VI{l:List aA}{i:Nat}{ob:Int}{fr:List (Int)}{to:List (Int)}{bC:List (Int)}{co:List (List (Int))}:ez (.o (ae aA.d aA.zero l)) [(i,0)] 0 [.int .i64 ob,ints fr,ints to,ints bC,aI co]=.o (ae aA.d aA.zero (l.set i ⟨ob,fr,to,bC,co⟩)):=p5 (n:=5) (fun _=>⟨_,rfl,rfl⟩) rfl
attribute [go_sem] aA.cells.eq_1 aA.d.eq_1 V5 TU
attribute [go_sem high] VI
theorem ye(x:aA):x.d.ba=true:=by simp only[aA.d,aA.cells,D.ba,cB,bZ,ff,Bool.and_self]
def BD:List Nat:=[0,1,2,6]
def JB:Sl:=ak Go.Proofs.Tryz.types Go.Proofs.Tryz.f169 BD []
theorem RJ:aF Go.Proofs.Tryz.prog Go.Proofs.Tryz.f169 BD JB 3=true:=by decide +kernel
theorem HV(l:List Int)(n ob:Int):aC Go.Proofs.Tryz.prog 169 [.v (ints l),.v (.int .i64 n),.v (.int .i64 ob)] (.bool ((l.length:Int) == n&&bV ob l)):=by
 refine aQ Go.Proofs.Tryz.func169 RJ ?_;unfold JB ak BD;simp only[go_sem];refine bt (fun h=>rO ob l) rfl (fun h=>by simp[h]) (.inl rfl) ?_;simp only[go_sem]
def eZ(n:Nat)(p:Nat->Bool):Bool:=(List.range n).all p
theorem wa{n:Nat}{p:Nat->Bool}:eZ n p=true↔∀i,i<n->p i=true:=by simp[eZ]
theorem wc{n:Nat}{p:Nat->Bool}(h:eZ n p=true)(hp:p n=true):eZ (n+1) p=true:=by
 rw[wa] at *;intro i hi;by_cases h1:i<n
 ·exact h i h1
 ·rw[show i=n by omega];exact hp
theorem wb{n i:Nat}{p:Nat->Bool}(hi:i<n)(hp:p i=false):eZ n p=false:=by
 cases h:eZ n p with
 | false=>rfl
 | true=>rw[wa.1 h i hi] at hp;cases hp
def aA.preB(c:aA):Bool:=aP c.ob 0 8&&decide (c.fr.length<=40)&&bV c.ob c.fr&&((c.to.length:Int) == c.fr.length)&&bV c.ob c.to&&((c.co.length:Int) == c.fr.length)&&((c.bC.length:Int) == c.ob)&&bV c.fr.length c.bC
def aA.mc(c:aA)(x:Nat):Bool:=c.fr.getD (c.bC.getD x 0).toNat 0 == (x:Int)&&c.to.getD (c.bC.getD x 0).toNat 0 == (x:Int)
def aA.cell(c:aA)(f g:Nat):Int:=(c.co.getD f []).getD g 0
def aA.lS(c:aA)(f g:Nat):Bool :=
 if c.to.getD f 0 != c.fr.getD g 0 then c.cell f g == -1
 else decide (0<=c.cell f g)&&decide (c.cell f g<c.fr.length)&&(c.fr.getD (c.cell f g).toNat 0 == c.fr.getD f 0)&&(c.to.getD (c.cell f g).toNat 0 == c.to.getD g 0)
def aA.mQ(c:aA)(f:Nat):Bool:=((c.co.getD f []).length:Int) == c.fr.length&&eZ c.fr.length (c.lS f)
def aA.iA(c:aA):Bool:=c.preB&&eZ c.bC.length c.mc&&eZ c.fr.length c.mQ
structure aA.Pre(c:aA):Prop where
 rl : 0<=c.ob
 pN:c.ob<=8
 fr:c.fr.length<=40
 Et:bV c.ob c.fr=true
 to:c.to.length=c.fr.length
 KT:bV c.ob c.to=true
 co:c.co.length=c.fr.length
 bC:(c.bC.length:Int)=c.ob
 EO:bV c.fr.length c.bC=true
theorem aA.GN{c:aA}:c.preB=true↔c.Pre:=by
 simp only[aA.preB,aP,Bool.and_eq_true,decide_eq_true_eq,beq_iff_eq];constructor
 ·rintro⟨⟨⟨⟨⟨⟨⟨⟨h1,h2⟩,h3⟩,h4⟩,h5⟩,h6⟩,h7⟩,h8⟩,h9⟩
  exact⟨h1,h2,h3,h4,by omega,h6,by omega,h8,h9⟩
 ·rintro⟨h1,h2,h3,h4,h5,h6,h7,h8,h9⟩
  exact⟨⟨⟨⟨⟨⟨⟨⟨h1,h2⟩,h3⟩,h4⟩,by omega⟩,h6⟩,by omega⟩,h8⟩,h9⟩
structure aA.Shape(c:aA):Prop extends aA.Pre c where
 ids:∀x,x<c.bC.length->c.mc x=true
 row:∀f,f<c.fr.length->(c.co.getD f []).length=c.fr.length
 cells:∀f g,f<c.fr.length->g<c.fr.length->c.lS f g=true
theorem aA.zU{c:aA}:c.iA=true↔c.Shape:=by
 simp only[aA.iA,aA.mQ,Bool.and_eq_true,wa,aA.GN,beq_iff_eq];constructor
 ·rintro⟨⟨h1,h2⟩,h3⟩
  exact⟨h1,h2,fun f hf=>by have:=(h3 f hf).1;omega,fun f g hf hg=>(h3 f hf).2 g hg⟩
 ·rintro⟨h1,h2,h3,h4⟩
  exact⟨⟨h1,h2⟩,fun f hf=>⟨by have:=h3 f hf;omega,fun g hg=>h4 f g hf hg⟩⟩
theorem aA.Pre.kY{c:aA}(h:c.Pre):c.bC.length<=8:=by have:=h.bC;have:=h.pN;omega
theorem aA.Pre.idx{c:aA}(h:c.Pre){x:Nat}(hx:x<c.bC.length) : 0<=c.bC.getD x 0/\c.bC.getD x 0<c.fr.length:=ew h.EO hx
theorem aA.Qf{c:aA}{x:Nat}(hx:x<c.bC.length)(h:c.mc x=false):c.iA=false:=by
 unfold aA.iA;rw[wb hx h];simp
theorem aA.FT{c:aA}{f:Nat}(hf:f<c.fr.length)(h:c.mQ f=false):c.iA=false:=by
 unfold aA.iA;rw[wb hf h];simp
theorem aA.FR{c:aA}{f g:Nat}(hf:f<c.fr.length)(hg:g<c.fr.length)(h:c.lS f g=false):c.iA=false:=by
 refine aA.FT hf ?_;unfold aA.mQ;rw[wb hg h];simp
theorem aA.NI{c:aA}(hp:c.Pre)(h1:eZ c.bC.length c.mc=true)(h2:eZ c.fr.length c.mQ=true):c.iA=true:=by
 unfold aA.iA;rw[h1,h2,aA.GN.2 hp];rfl
theorem aA.FU{c:aA}(h:¬c.Pre):c.iA=false:=by
 cases hs:c.iA with
 | false=>rfl
 | true=>exact absurd (aA.zU.1 hs).toPre h
theorem tZ{P:Nat->Prop}{n:Nat}(h:∀j,j<n->P j)(hn:P n):∀j,j<n+1->P j:=fun j hj=>by
 by_cases h1:j<n
 ·exact h j h1
 ·rw[show j=n by omega];exact hn
theorem kT{α:Type}{F:Nat->Option α}:∀(n:Nat),(∀j,j<n->F j=none)->(List.range n).findSome? F=none:=by
 intro n h;rw[List.findSome?_eq_none_iff];intro x hx;exact h x (by simpa using hx)
theorem qR{α:Type}{F:Nat->Option α}{i:Nat}{r:α}:∀(n:Nat),(∀j,j<i->F j=none)->i<n->F i=some r->(List.range n).findSome? F=some r
 | 0,_,h,_=>by omega
 | n+1,h0,h1,h2=>by
  rw[List.range_succ,List.findSome?_append];by_cases h:i<n
  ·rw[qR n h0 h h2];rfl
  ·have:i=n:=by omega
   subst this;rw[kT i h0];simp[h2]
def aA.dx(c:aA)(f g:Int):Int:=(c.co.getD f.toNat []).getD g.toNat 0
def aA.kg(c:aA)(x:Int):Int:=c.bC.getD x.toNat 0
def aA.pt(c:aA)(f:Nat):Bool:=c.dx (c.kg (c.fr.getD f 0)) f != f || c.dx f (c.kg (c.to.getD f 0)) != f
def aA.fX(c:aA)(f g h:Nat):Bool:=c.to.getD f 0 == c.fr.getD g 0&&c.to.getD g 0 == c.fr.getD h 0&&c.dx (c.dx f g) h != c.dx f (c.dx g h)
def aA.lX(c:aA):Int×Int×Int×Int :=
 match(List.range c.fr.length).findSome? fun f=>if c.pt f then some f else none with
 | some f=>(1,f,0,0)
 | none=>match(List.range c.fr.length).findSome? fun f=>(List.range c.fr.length).findSome? fun g=>(List.range c.fr.length).findSome? fun h=>if c.fX f g h then some (f,g,h) else none with
  | some (f,g,h)=>(2,f,g,h)
  | none=>(0,0,0,0)
section
variable{c:aA}
theorem aA.LF{f g h:Nat}(h2:c.to.getD f 0≠c.fr.getD g 0):c.fX f g h=false:=by unfold aA.fX;rw[beq_eq_false_iff_ne.2 h2];rfl
theorem aA.LG{f g h:Nat}(h2:c.to.getD f 0=c.fr.getD g 0):c.fX f g h=(c.to.getD g 0 == c.fr.getD h 0&&c.dx (c.dx f g) h != c.dx f (c.dx g h)):=by unfold aA.fX;rw[beq_iff_eq.2 h2];rfl
theorem aA.MM{f:Nat}(h0:∀j,j<f->c.pt j=false)(h1:f<c.fr.length)(h2:c.pt f=true):c.lX=(1,(f:Int),0,0):=by
 unfold aA.lX;rw[qR (i:=f) (r:=f) _ (fun j hj=>by simp[h0 j hj]) h1 (by simp[h2])]
theorem aA.MN(h0:∀j,j<c.fr.length->c.pt j=false)(h:∀f g h,f<c.fr.length->g<c.fr.length->h<c.fr.length->c.fX f g h=false):c.lX=(0,0,0,0):=by
 unfold aA.lX;rw[kT _ (fun j hj=>by simp[h0 j hj])];simp only;rw[kT _ fun f hf=>kT _ fun g hg=>kT _ fun h' hh=>by simp[h f g h' hf hg hh]]
theorem aA.ML{f g h:Nat}(h0:∀j,j<c.fr.length->c.pt j=false)(hf:f<c.fr.length)(hg:g<c.fr.length)(hh:h<c.fr.length)(h1:c.fX f g h=true)
  (h2:∀h',h'<h->c.fX f g h'=false) (h3:∀g' h',g'<g->h'<c.fr.length->c.fX f g' h'=false) (h4:∀f' g' h',f'<f->g'<c.fr.length->h'<c.fr.length->c.fX f' g' h'=false):c.lX=(2,(f:Int),(g:Int),(h:Int)):=by
 unfold aA.lX;rw[kT _ (fun j hj=>by simp[h0 j hj])];simp only
 rw[qR (i:=f) (r:=(f,g,h)) _ (fun f' hf'=>kT _ fun g' hg'=>kT _ fun h' hh'=>by simp[h4 f' g' h' hf' hg' hh']) hf
  (qR (i:=g) _ (fun g' hg'=>kT _ fun h' hh'=>by simp[h3 g' h' hg' hh']) hg (qR (i:=h) _ (fun h' hh'=>by simp[h2 h' hh']) hh (by simp[h1])))]
theorem aA.Shape.l7(hs:c.Shape){f:Nat}(hf:f<c.fr.length) : 0<=c.fr.getD f 0/\c.fr.getD f 0<c.bC.length:=by
 have:=ew hs.Et hf;have:=hs.bC;omega
theorem aA.Shape.ni(hs:c.Shape){f:Nat}(hf:f<c.fr.length) : 0<=c.to.getD f 0/\c.to.getD f 0<c.bC.length:=by
 have:=ew hs.KT (i:=f) (by have:=hs.to;omega);have:=hs.bC;omega
theorem aA.Shape.xz(hs:c.Shape){x:Int}(h0 : 0<=x)(h1:x<c.bC.length) : 0<=c.kg x/\c.kg x<c.fr.length:=hs.toPre.idx (x:=x.toNat) (by omega)
theorem aA.Shape.H8(hs:c.Shape){f:Int}(h0 : 0<=f)(h1:f<c.fr.length):(c.co.getD f.toNat []).length=c.fr.length:=hs.row f.toNat (by omega)
theorem aA.Shape.sW(hs:c.Shape){f g:Nat}(hf:f<c.fr.length)(hg:g<c.fr.length)(h:c.to.getD f 0=c.fr.getD g 0) : 0<=c.dx f g/\c.dx f g<c.fr.length/\c.fr.getD (c.dx f g).toNat 0=c.fr.getD f 0/\c.to.getD (c.dx f g).toNat 0=c.to.getD g 0:=by
 have hc:=hs.cells f g hf hg;unfold aA.lS at hc;rw[if_neg (by simp only[h,bne_self_eq_false];decide)] at hc;have e:c.cell f g=c.dx f g:=by simp[aA.cell,aA.dx]
 simp only[e,Bool.and_eq_true,decide_eq_true_eq,beq_iff_eq] at hc;exact⟨hc.1.1.1,hc.1.1.2,hc.1.2,hc.2⟩
end
def fd(r:Int×Int×Int×Int):D:=.au [.int .i64 r.1,.int .i64 r.2.1,.int .i64 r.2.2.1,.int .i64 r.2.2.2]
def aA.tG(c:aA):Bool:=c.iA&&c.lX.1 == 0
def Bi:List Nat:=[0,2,1,3,4,5,6,7]
def Jh:Sl:=ak Go.Proofs.Tryz.types Go.Proofs.Tryz.f149 Bi []
theorem Rp:aF Go.Proofs.Tryz.prog Go.Proofs.Tryz.f149 Bi Jh 1=true:=by decide +kernel
theorem UP(c:aA):aC Go.Proofs.Tryz.prog 149 [.v c.d] (.bool c.iA):=by
 refine aQ Go.Proofs.Tryz.func149 Rp ?_;unfold Jh ak Bi;simp only[go_sem];refine av (oA _ _ _) rfl (.inl rfl) ?_;simp only[go_sem];refine⟨fun h=>by simpa using h,?_⟩;refine bt (fun h=>HV c.fr c.fr.length c.ob) rfl (fun h=>by simpa using h) (.inl rfl) ?_;simp only[go_sem];refine⟨fun h=>by simp_all,?_⟩;refine bt (fun h=>HV c.to c.fr.length c.ob) rfl (fun h=>by simpa using h) (.inl rfl) ?_;simp only[go_sem];refine⟨fun h=>by simp_all,fun h=>by simp_all,fun h=>?_,fun h=>?_⟩
 ·symm;refine aA.FU fun hp=>?_
  have h1:aP c.ob 0 8=true:=by simp[aP,hp.rl,hp.pN]
  have h2:=hp.fr;simp[h1,hp.Et,hp.to,hp.KT,hp.co] at h;omega
 refine bt (fun h=>rO c.fr.length c.bC) rfl (fun h=>by simpa using h) (.inl rfl) ?_;simp only[go_sem];refine⟨fun h=>by simp_all,fun h2=>?_,fun h2=>?_⟩
 ·symm;refine aA.FU fun hp=>?_
  simp[hp.bC,hp.EO] at h2
 have hp:c.Pre:=by
  simp only[Bool.or_eq_false_iff,Bool.not_eq_false',bne_eq_false_iff_eq,decide_eq_false_iff_not,aP,Bool.and_eq_true,decide_eq_true_eq,beq_iff_eq] at h h2;obtain⟨⟨⟨⟨h1,h3⟩,h4⟩,h5⟩,h6⟩:=h;exact⟨h1.1,h1.2,by omega,h4.2,by omega,h5.2,by omega,h2.1,h2.2⟩
 clear h h2;refine aE [] (fun(x:Nat)=>[(4,.int .i64 x)]) (fun x=>x<=c.bC.length/\eZ x c.mc=true) (fun x=>c.bC.length-x) 0 rfl ⟨Nat.zero_le _,rfl⟩ rfl ?_;rintro x ⟨hx,ha⟩;simp only[go_sem];have hob:=hp.bC;refine⟨fun h=>?_,fun h=>?_⟩
 ·have hx':x<c.bC.length:=by omega
  have hid:=hp.idx hx';have hto:=hp.to;refine⟨hx',hid,fun h=>⟨h,hx'⟩,fun h=>⟨h,hid.1,by omega⟩,fun h=>by simpa using h,fun h=>?_,fun h=>?_⟩
  ·exact(aA.Qf hx' (by simp only[aA.mc];rw[Bool.or_eq_true,bne_iff_ne,bne_iff_ne] at h;rw[Bool.and_eq_false_iff,beq_eq_false_iff_ne,beq_eq_false_iff_ne];exact h)).symm
  ·exact⟨x+1,⟨by omega,wc ha (by simpa[aA.mc] using h)⟩,by omega,by rw[aM hx' (by have:=hp.kY;simp only[maxLen];omega)]⟩
 have hx':x=c.bC.length:=by omega
 subst hx';have hm:=hp.fr;have hco:=hp.co;have hto:=hp.to;refine aE [6,7] (fun(f:Nat)=>[(5,.int .i64 f)]) (fun f=>f<=c.fr.length/\eZ f c.mQ=true) (fun f=>c.fr.length-f) 0 rfl ⟨Nat.zero_le _,rfl⟩ rfl ?_;rintro f ⟨hf,hb⟩;simp only[go_sem];refine⟨fun hfl=>⟨by omega,fun h2=>?_,fun h2=>?_⟩,fun h=>?_⟩
 ·exact(aA.FT hfl (by simp only[aA.mQ];rw[Bool.and_eq_false_iff];left;simpa using h2)).symm
 ·refine aE [7] (fun(g:Nat)=>[(6,.int .i64 g)]) (fun g=>g<=c.fr.length/\eZ g (c.lS f)=true) (fun g=>c.fr.length-g) 0 rfl ⟨Nat.zero_le _,rfl⟩ rfl ?_
  rintro g ⟨hg,hc⟩;simp only[go_sem]
  have hrow:(c.co.getD f []).length=c.fr.length:=by
   rw[bne_eq_false_iff_eq] at h2;omega
  have hcb:c.lS f g=if c.to.getD f 0 != c.fr.getD g 0 then(c.co.getD f []).getD g 0 == -1
   else decide (0<=(c.co.getD f []).getD g 0)&&decide ((c.co.getD f []).getD g 0<c.fr.length)&&(c.fr.getD ((c.co.getD f []).getD g 0).toNat 0 == c.fr.getD f 0)&&(c.to.getD ((c.co.getD f []).getD g 0).toNat 0 == c.to.getD g 0):=rfl
  generalize(c.co.getD f []).getD g 0=h at hcb;refine⟨fun hgl=>?_,fun hgl=>?_⟩
  ·have step:c.lS f g=true->∃x',(x'<=c.fr.length/\eZ x' (c.lS f)=true)/\c.fr.length-x'<c.fr.length-g/\IntKind.i64.wrap ((g:Int)+1)=(x':Int):=fun hh=>⟨g+1,⟨by omega,wc hc hh⟩,by omega,aM hgl (by simp only[maxLen];omega)⟩
   refine⟨by omega,by omega,by omega,hgl,fun h3=>⟨fun h4=>?_,fun h4=>?_⟩,fun h3=>⟨fun h4=>by simp_all,fun h4=>⟨h4,by simp at h4;omega⟩,fun h4=>⟨h4,by omega⟩,fun h4=>by simpa only[<-Bool.not_or,Bool.not_eq_true'] using h4,fun h4=>⟨h4,by simp at h4;omega⟩,fun h4=>⟨h4,by omega⟩,fun h4=>by simpa only[<-Bool.not_or,Bool.not_eq_true'] using h4,fun h4=>?_,fun h4=>?_⟩⟩
   ·exact(aA.FR hfl hgl (by rw[hcb,if_pos h3];simpa using h4)).symm
   ·obtain⟨x',e1,e2,e3⟩:=step (by rw[hcb,if_pos h3];simpa using h4)
    exact⟨x',e1,e2,by rw[e3]⟩
   ·refine(aA.FR hfl hgl ?_).symm
    rw[hcb,if_neg (by rw[h3];decide)];simp only[Bool.or_eq_true,decide_eq_true_eq,bne_iff_ne] at h4;simp only[Bool.and_eq_false_iff,decide_eq_false_iff_not,beq_eq_false_iff_ne];omega
   ·obtain⟨x',e1,e2,e3⟩:=step (by
     rw[hcb,if_neg (by rw[h3];decide)];simp only[Bool.or_eq_false_iff,decide_eq_false_iff_not,bne_eq_false_iff_eq] at h4;simp only[Bool.and_eq_true,decide_eq_true_eq,beq_iff_eq]
     omega)
    exact⟨x',e1,e2,by rw[e3]⟩
  ·have:g=c.fr.length:=by omega
   subst this;refine⟨f+1,⟨by omega,wc hb (by simp only[aA.mQ];rw[hc,hrow];simp)⟩,by omega,by rw[aM hfl (by simp only[maxLen];omega)]⟩
 ·have:f=c.fr.length:=by omega
  subst this;exact(aA.NI hp ha hb).symm
def BE:List Nat:=[0,2,3,4,5,1,6,7,8,9,10]
def JC:Sl:=ak Go.Proofs.Tryz.types Go.Proofs.Tryz.f150 BE []
theorem RL:aF Go.Proofs.Tryz.prog Go.Proofs.Tryz.f150 BE JC 1=true:=by decide +kernel
theorem UY(c:aA)(hs:c.Shape):aC Go.Proofs.Tryz.prog 150 [.v c.d] (fd c.lX):=by
 have hm:=hs.fr;have hml:c.fr.length<=maxLen:=by simp only[maxLen];omega
 have hto:=hs.to;have hco:=hs.co;have cI:∀f g:Int,(c.co.getD f.toNat []).getD g.toNat 0=c.dx f g:=fun _ _=>rfl
 have iI:∀x:Int,c.bC.getD x.toNat 0=c.kg x:=fun _=>rfl
 refine aQ Go.Proofs.Tryz.func150 RL ?_;unfold JC ak BE;simp only[go_sem];refine aE [] (fun(f:Nat)=>[(7,.int .i64 f)]) (fun f=>f<=c.fr.length/\∀j,j<f->c.pt j=false) (fun f=>c.fr.length-f) 0 rfl ⟨Nat.zero_le _,fun j hj=>by omega⟩ rfl ?_;rintro f ⟨hf,ha⟩;simp only[go_sem];refine⟨fun h=>?_,fun h=>?_⟩
 ·have e1:=hs.l7 h
  have e2:=hs.xz e1.1 e1.2;have e3:=hs.H8 e2.1 e2.2;have e4:=hs.ni h;have e5:=hs.xz e4.1 e4.2;have e6:=hs.row f h;simp only[aA.kg] at e2 e3 e5;refine⟨h,e1,⟨e2.1,by omega⟩,by omega,fun h2=>⟨h2,by omega⟩,fun h2=>⟨h2,by omega⟩,fun h2=>⟨h2,e4⟩,fun h2=>⟨h2,e5.1,by omega⟩,fun h2=>by simpa only[Bool.not_eq_true'] using h2,fun h2=>?_,fun h2=>?_⟩
  ·rw[aA.MM ha h h2];rfl
  ·exact⟨f+1,⟨by omega,fun j hj=>by by_cases hjf:j<f;exact ha j hjf;rw[show j=f by omega];exact h2⟩,by omega,by rw[aM h hml]⟩
 have:f=c.fr.length:=by omega
 subst this;refine aE [9,10] (fun(f:Nat)=>[(8,.int .i64 f)]) (fun f=>f<=c.fr.length/\∀f' g' h',f'<f->g'<c.fr.length->h'<c.fr.length->c.fX f' g' h'=false) (fun f=>c.fr.length-f) 0 rfl ⟨Nat.zero_le _,fun _ _ _ hj=>by omega⟩ rfl ?_;rintro f ⟨hf,hb⟩;simp only[go_sem];refine⟨fun hfl=>?_,fun h=>?_⟩
 ·refine aE [10] (fun(g:Nat)=>[(9,.int .i64 g)]) (fun g=>g<=c.fr.length/\∀g' h',g'<g->h'<c.fr.length->c.fX f g' h'=false) (fun g=>c.fr.length-g) 0 rfl ⟨Nat.zero_le _,fun _ _ hj=>by omega⟩ rfl ?_
  rintro g ⟨hg,hc⟩;simp only[go_sem];refine⟨fun hgl=>⟨by omega,hgl,fun h2=>?_,fun h2=>?_⟩,fun h=>?_⟩
  ·refine⟨g+1,⟨by omega,fun g' h' hg' hh'=>tZ (P:=fun g'=>c.fX f g' h'=false) (fun j hj=>hc j h' hj hh') ?_ g' hg'⟩,by omega,by rw[aM hgl hml]⟩
   rw[bne_iff_ne] at h2;exact aA.LF h2
  ·rw[bne_eq_false_iff_eq] at h2
   have e1:=hs.sW hfl hgl h2;refine aE [] (fun(h:Nat)=>[(10,.int .i64 h)]) (fun h=>h<=c.fr.length/\∀h',h'<h->c.fX f g h'=false) (fun h=>c.fr.length-h) 0 rfl ⟨Nat.zero_le _,fun _ hj=>by omega⟩ rfl ?_;rintro h ⟨hh,hd⟩;simp only[go_sem];have e3:=hs.H8 e1.1 e1.2.1;have e4:=hs.row f hfl;have e5:=hs.row g hgl;have hasf:=fun h=>aA.LG (h:=h) h2
   refine⟨fun hhl=>?_,fun h3=>?_⟩
   ·have e6:=hs.sW hgl hhl
    refine⟨by omega,hhl,fun h3=>⟨h3,by omega⟩,fun h3=>⟨h3,by omega⟩,fun h3=>⟨h3,e1.1,by rw[hco];exact e1.2.1⟩,fun h3=>⟨h3,Nat.lt_of_lt_of_eq hhl e3.symm⟩,fun h3=>⟨h3,by omega⟩,fun h3=>⟨h3,by omega⟩,fun h3=>⟨h3,by omega⟩,
     fun h3=>⟨h3,(e6 h3).1,by rw[e4];exact(e6 h3).2.1⟩,fun h3=>?_,fun h3=>?_⟩
    ·rw[aA.ML ha hfl hgl hhl (by rw[hasf];exact h3) hd hc hb];rfl
    ·exact⟨h+1,⟨by omega,tZ hd (by rw[hasf];exact h3)⟩,by omega,by rw[aM hhl hml]⟩
   ·have:h=c.fr.length:=by omega
    subst this;exact⟨g+1,⟨by omega,fun g' h' hg' hh'=>tZ (P:=fun g'=>c.fX f g' h'=false) (fun j hj=>hc j h' hj hh') (hd h' hh') g' hg'⟩,by omega,by rw[aM hgl hml]⟩
  ·refine⟨f+1,⟨by omega,fun f' g' h' hf' hg' hh'=>tZ (P:=fun f'=>c.fX f' g' h'=false) (fun j hj=>hb j g' h' hj hg' hh') (hc g' h' (by omega) hh') f' hf'⟩,by omega,by rw[aM hfl hml]⟩
 ·have:f=c.fr.length:=by omega
  subst this;rw[aA.MN ha hb];rfl
def BF:List Nat:=[0,2,1,3]
def JD:Sl:=ak Go.Proofs.Tryz.types Go.Proofs.Tryz.f118 BF []
theorem RN:aF Go.Proofs.Tryz.prog Go.Proofs.Tryz.f118 BF JD 1=true:=by decide +kernel
theorem UZ(c:aA):aC Go.Proofs.Tryz.prog 118 [.v c.d] (.bool c.tG):=by
 refine aQ Go.Proofs.Tryz.func118 RN ?_;unfold JD ak BF;simp only[go_sem];refine av (UP c) rfl (.inl rfl) ?_;simp only[go_sem];refine⟨fun h=>?_,fun h=>?_⟩
 ·unfold aA.tG;rw[Bool.not_eq_true'] at h;rw[h];rfl
 rw[Bool.not_eq_false'] at h;refine av (UY c (aA.zU.1 h)) rfl (.inl rfl) ?_;simp only[fd];simp only[go_sem];unfold aA.tG;rw[h];rfl
def BH:List Nat:=[0,2,1]
def JF:Sl:=ak Go.Proofs.Tryz.types Go.Proofs.Tryz.f120 BH []
theorem RP:aF Go.Proofs.Tryz.prog Go.Proofs.Tryz.f120 BH JF 1=true:=by decide +kernel
theorem zu(a:aA)(hs:aA.cost a<=1048576):aC Go.Proofs.Tryz.prog 120 [.v (aA.d a)] (aA.d a):=by
 unfold aA.cost at hs;refine aQ Go.Proofs.Tryz.func120 RP ?_;unfold JF ak BH;simp only[go_sem];refine av (iX a.fr (by omega)) rfl (.inl (bZ _)) ?_;simp only[go_sem];refine av (iX a.to (by omega)) rfl (.inl (bZ _)) ?_;simp only[go_sem];refine av (iX a.bC (by omega)) rfl (.inl (bZ _)) ?_;simp only[go_sem];refine av (HU a.co (by omega)) rfl (.inl (ff _)) ?_;simp only[go_sem]
 all_goals rfl
def gD(l:List Int)(x:Int):Int:=if l.findIdx (·== x)<l.length then((l.findIdx (·== x):Nat):Int) else -1
def Br:List Nat:=[0,1,4,5]
def Jp:Sl:=ak Go.Proofs.Tryz.types Go.Proofs.Tryz.f170 Br []
theorem Rx:aF Go.Proofs.Tryz.prog Go.Proofs.Tryz.f170 Br Jp 2=true:=by decide +kernel
theorem HT(l:List Int)(x:Int)(hl:l.length<=1048576):aC Go.Proofs.Tryz.prog 170 [.v (ints l),.v (.int .i64 x)] (.int .i64 (gD l x)):=by
 refine aQ Go.Proofs.Tryz.func170 Rx ?_;unfold Jp ak Br;simp only[go_sem];refine aE [] (fun i:Nat=>[(3,.int .i64 i)]) (fun i=>i<=l.findIdx (·== x)) (fun i=>l.length-i) 0 (by simp only[go_sem];rfl) (Nat.zero_le _) rfl ?_;intro i hi;have hfl:=List.findIdx_le_length (p:=(·== x)) (xs:=l);simp only[go_sem];refine⟨fun h1=>⟨h1,fun h2=>?_,fun h2=>⟨i+1,?_,by omega,by rw[aM h1 (by simp only[maxLen];omega)]⟩⟩,fun h1=>?_⟩
 ·have:l.findIdx (·== x)<=i:=by
   apply Nat.le_of_not_lt;intro hh;have:=List.not_of_lt_findIdx hh;rw[<-aS (d:=0) h1,h2] at this;simp at this
  have e:l.findIdx (·== x)=i:=by omega
  unfold gD;rw[e,if_pos h1]
 ·by_cases hlt:i<l.findIdx (·== x)
  ·omega
  ·have e:l.findIdx (·== x)=i:=by omega
   have:=List.findIdx_getElem (w:=show l.findIdx (·== x)<l.length by omega);simp only[e] at this;rw[<-aS (d:=0) h1,h2] at this;cases this
 ·unfold gD
  rw[if_neg (by omega)]
def BI:List Nat:=[0,1,2,6,3]
def JG:Sl:=ak Go.Proofs.Tryz.types Go.Proofs.Tryz.f122 BI []
theorem RQ:aF Go.Proofs.Tryz.prog Go.Proofs.Tryz.f122 BI JG 3=true:=by decide +kernel
theorem U0(c:aA)(f g:Int)(h0 : 0<=f)(h1:f<c.co.length)(h2 : 0<=g)(h3:g<(c.co.getD f.toNat []).length):aC Go.Proofs.Tryz.prog 122 [.v c.d,.v (.int .i64 f),.v (.int .i64 g)] (.int .i64 (c.dx f g)):=by
 refine aQ Go.Proofs.Tryz.func122 RQ ?_;unfold JG ak BI;simp only[go_sem];exact⟨⟨h0,h1⟩,⟨h2,h3⟩,rfl⟩
def lexB:List Int->List Int->Bool
 | [],[]=>false
 | [],_::_=>true
 | _::_,[]=>false
 | a::l,b::r=>if a=b then lexB l r else decide (a<b)
theorem Of{a b:List Int}{i:Nat}(ha:i<a.length)(hb:i<b.length)(h:a.getD i 0=b.getD i 0):lexB (a.drop i) (b.drop i)=lexB (a.drop (i+1)) (b.drop (i+1)):=by
 rw[aS ha,aS hb] at h;rw[List.drop_eq_getElem_cons ha,List.drop_eq_getElem_cons hb];simp only[lexB,h,if_true]
def Bt:List Nat:=[0,1,4,5]
def Jr:Sl:=ak Go.Proofs.Tryz.types Go.Proofs.Tryz.f167 Bt []
theorem Rz:aF Go.Proofs.Tryz.prog Go.Proofs.Tryz.f167 Bt Jr 2=true:=by decide +kernel
theorem UU(a b:List Int)(hl:a.length<=1048576):aC Go.Proofs.Tryz.prog 167 [.v (ints a),.v (ints b)] (.bool (lexB a b)):=by
 refine aQ Go.Proofs.Tryz.func167 Rz ?_;unfold Jr ak Bt;simp only[go_sem];refine aE [] (fun i:Nat=>[(3,.int .i64 i)]) (fun i=>i<=a.length/\i<=b.length/\lexB a b=lexB (a.drop i) (b.drop i)) (fun i=>a.length-i) 0 (by simp only[go_sem];rfl) ⟨Nat.zero_le _,Nat.zero_le _,rfl⟩ rfl ?_;rintro i ⟨hi,hi2,hs⟩;simp only[go_sem];refine⟨fun h=>?_,fun h=>?_⟩
 ·simp only[Bool.and_eq_true,decide_eq_true_eq] at h
  refine⟨h.1,h.2,fun h2=>⟨h.1,h.2,?_⟩,fun h2=>⟨i+1,⟨h.1,h.2,?_⟩,by omega,by rw[aM h.1 (by simp only[maxLen];omega)]⟩⟩
  ·have h3:a.getD i 0≠b.getD i 0:=by simpa using h2
   rw[hs,List.drop_eq_getElem_cons h.1,List.drop_eq_getElem_cons h.2];rw[aS h.1,aS h.2] at h3|-
   simp only[lexB,if_neg h3]
  ·have h3:a.getD i 0=b.getD i 0:=by simpa using h2
   rw[hs,Of h.1 h.2 h3]
 ·rw[hs]
  by_cases h1:i<a.length
  ·have h2:¬i<b.length:=by simp only[h1,decide_true,Bool.true_and,decide_eq_false_iff_not] at h;exact h
   rw[List.drop_eq_getElem_cons h1,List.drop_eq_nil_of_le (show b.length<=i by omega)];simp only[lexB,decide_eq_false_iff_not];omega
  ·rw[List.drop_eq_nil_of_le (show a.length<=i by omega)]
   by_cases h2:i<b.length
   ·rw[List.drop_eq_getElem_cons h2];simp only[lexB,decide_eq_true_eq];omega
   ·rw[List.drop_eq_nil_of_le (show b.length<=i by omega)];simp only[lexB,decide_eq_false_iff_not];omega
def BA:List Nat:=[0,1,4,5]
def Jy:Sl:=ak Go.Proofs.Tryz.types Go.Proofs.Tryz.f148 BA []
theorem RG:aF Go.Proofs.Tryz.prog Go.Proofs.Tryz.f148 BA Jy 2=true:=by decide +kernel
theorem u5(a b:List Int)(hl:a.length<=1048576):aC Go.Proofs.Tryz.prog 148 [.v (ints a),.v (ints b)] (.bool (a == b)):=by
 refine aQ Go.Proofs.Tryz.func148 RG ?_;unfold Jy ak BA;simp only[go_sem];refine⟨fun h=>?_,fun h=>?_⟩
 ·have:a≠b:=fun e=>by subst e;simp at h
  simpa using this
 have hab:a.length=b.length:=by simp at h;omega
 refine aE [] (fun i:Nat=>[(3,.int .i64 i)]) (fun i=>i<=a.length/\∀j,j<i->a.getD j 0=b.getD j 0) (fun i=>a.length-i) 0 (by simp only[go_sem];rfl) ⟨Nat.zero_le _,fun j hj=>by omega⟩ rfl ?_;rintro i ⟨hi,hs⟩;simp only[go_sem];refine⟨fun h1=>⟨h1,by omega,fun h2=>?_,fun h2=>⟨i+1,⟨by omega,fun j hj=>?_⟩,by omega,by rw[aM h1 (by simp only[maxLen];omega)]⟩⟩,fun h1=>?_⟩
 ·have:a≠b:=fun e=>by subst e;simp at h2
  simpa using this
 ·by_cases hji:j=i
  ·subst hji;simpa using h2
  ·exact hs j (by omega)
 ·have:a=b:=by
   apply List.ext_getElem hab;intro j h3 h4;have:=hs j (by omega)
   rwa [aS h3,aS h4] at this
  simpa using this
def ot(l:List (List Int))(x:List Int):Int:=if l.findIdx (·== x)<l.length then((l.findIdx (·== x):Nat):Int) else -1
def BL:List Nat:=[0,1,4,5]
def JJ:Sl:=ak Go.Proofs.Tryz.types Go.Proofs.Tryz.f121 BL []
theorem RV:aF Go.Proofs.Tryz.prog Go.Proofs.Tryz.f121 BL JJ 2=true:=by decide +kernel
theorem U3(l:List (List Int))(x:List Int)(hl:l.length<=1048576)(hx:∀i,i<l.length->(l.getD i []).length<=1048576):aC Go.Proofs.Tryz.prog 121 [.v (aI l),.v (ints x)] (.int .i64 (ot l x)):=by
 refine aQ Go.Proofs.Tryz.func121 RV ?_;unfold JJ ak BL;simp only[go_sem];refine aE [] (fun i:Nat=>[(3,.int .i64 i)]) (fun i=>i<=l.findIdx (·== x)) (fun i=>l.length-i) 0 (by simp only[go_sem];rfl) (Nat.zero_le _) rfl ?_;intro i hi;have hfl:=List.findIdx_le_length (p:=(·== x)) (xs:=l);simp only[go_sem];refine⟨fun h1=>⟨h1,av (u5 _ x (hx i h1)) rfl (.inl rfl) ?_⟩,fun h1=>?_⟩
 ·simp only[go_sem]
  refine⟨fun h2=>?_,fun h2=>⟨i+1,?_,by omega,by rw[aM h1 (by simp only[maxLen];omega)]⟩⟩
  ·have:l.findIdx (·== x)<=i:=by
    apply Nat.le_of_not_lt;intro hh;have:=List.not_of_lt_findIdx hh;rw[<-aS (d:=[]) h1,h2] at this;simp at this
   have e:l.findIdx (·== x)=i:=by omega
   unfold ot;rw[e,if_pos h1]
  ·by_cases hlt:i<l.findIdx (·== x)
   ·omega
   ·have e:l.findIdx (·== x)=i:=by omega
    have:=List.findIdx_getElem (w:=show l.findIdx (·== x)<l.length by omega);simp only[e] at this;rw[<-aS (d:=[]) h1,h2] at this;cases this
 ·unfold ot
  rw[if_neg (by omega)]
end Go.D3
