/- CONTRACTS: categories: shapes and faults, the reference's side; lists that are compared and looked up. -/
import Derived.Test.YtpnchponfnbmiaaGreatDoorGAC
namespace Go.D3
open Go
set_option maxHeartbeats 4000000
set_option maxRecDepth 100000
structure ak where
 ob:Int
 fr:List (Int)
 to:List (Int)
 aN:List (Int)
 co:List (List (Int))
def ak.cells(x:ak):List D:=[.int .i64 x.ob,ints x.fr,ints x.to,ints x.aN,aW x.co]
def ak.d(x:ak):D:=.agg x.cells
def ak.zero:ak:=⟨0,[],[],[],[]⟩
def ak.cost(x:ak):Nat:=x.fr.length+x.to.length+x.aN.length+b7 List.length x.co
theorem UM:D.slice (.agg [.int .i64 0,ints [],ints [],ints [],aW []]) []=U ak.d ak.zero []:=rfl
theorem SG{n:Nat}:D.slice (.agg [.int .i64 0,ints [],ints [],ints [],aW []]) (List.replicate n (.agg [.int .i64 0,ints [],ints [],ints [],aW []]))=U ak.d ak.zero (List.replicate n ak.zero):=by unfold U;rw[List.map_replicate];rfl
theorem Um{l:List ak}{i:Nat}{ob:Int}{fr:List (Int)}{to:List (Int)}{aN:List (Int)}{co:List (List (Int))}:cX (.o (U ak.d ak.zero l)) [(i,0)] 0 [.int .i64 ob,ints fr,ints to,ints aN,aW co]=.o (U ak.d ak.zero (l.set i ⟨ob,fr,to,aN,co⟩)):=mQ (n:=5) (fun _=>⟨_,rfl,rfl⟩) rfl
attribute [go_sem] ak.cells.eq_1 ak.d.eq_1 UM SG
attribute [go_sem high] Um
theorem E9(x:ak):x.d.ba=true:=by simp only[ak.d,ak.cells,D.ba,dH,bJ,ua,Bool.and_self]
def Bk:List Nat:=[0,1,2,6]
def IU:Sl:=ae Go.Proofs.Tryz.types Go.Proofs.Tryz.f163 Bk []
theorem QL:aD Go.Proofs.Tryz.prog Go.Proofs.Tryz.f163 Bk IU 3=true:=by decide +kernel
theorem G7(l:List Int)(n ob:Int):al Go.Proofs.Tryz.prog 163 [.v (ints l),.v (.int .i64 n),.v (.int .i64 ob)] (.bool ((l.length:Int) == n&&cN ob l)):=by
 refine aC Go.Proofs.Tryz.func163 QL ?_;unfold IU ae Bk;simp only[go_sem];refine bt (fun h=>qe ob l) rfl (fun h=>by simp[h]) (.inl rfl) ?_;simp only[go_sem]
def cm(n:Nat)(p:Nat->Bool):Bool:=(List.range n).all p
theorem jO{n:Nat}{p:Nat->Bool}:cm n p=true↔∀i,i<n->p i=true:=by simp[cm]
theorem jP{n:Nat}{p:Nat->Bool}(h:cm n p=true)(hp:p n=true):cm (n+1) p=true:=by
 rw[jO] at *;intro i hi;by_cases h1:i<n
 ·exact h i h1
 ·rw[show i=n by omega];exact hp
theorem nn{n i:Nat}{p:Nat->Bool}(hi:i<n)(hp:p i=false):cm n p=false:=by
 cases h:cm n p with
 | false=>rfl
 | true=>rw[jO.1 h i hi] at hp;cases hp
def ak.preB(c:ak):Bool:=bq c.ob 0 8&&decide (c.fr.length<=40)&&cN c.ob c.fr&&((c.to.length:Int) == c.fr.length)&&cN c.ob c.to&&((c.co.length:Int) == c.fr.length)&&((c.aN.length:Int) == c.ob)&&cN c.fr.length c.aN
def ak.jr(c:ak)(x:Nat):Bool:=c.fr.getD (c.aN.getD x 0).toNat 0 == (x:Int)&&c.to.getD (c.aN.getD x 0).toNat 0 == (x:Int)
def ak.cell(c:ak)(f g:Nat):Int:=(c.co.getD f []).getD g 0
def ak.gG(c:ak)(f g:Nat):Bool :=
 if c.to.getD f 0 != c.fr.getD g 0 then c.cell f g == -1
 else decide (0<=c.cell f g)&&decide (c.cell f g<c.fr.length)&&(c.fr.getD (c.cell f g).toNat 0 == c.fr.getD f 0)&&(c.to.getD (c.cell f g).toNat 0 == c.to.getD g 0)
def ak.jG(c:ak)(f:Nat):Bool:=((c.co.getD f []).length:Int) == c.fr.length&&cm c.fr.length (c.gG f)
def ak.gR(c:ak):Bool:=c.preB&&cm c.aN.length c.jr&&cm c.fr.length c.jG
structure ak.Pre(c:ak):Prop where
 pO : 0<=c.ob
 xE:c.ob<=8
 fr:c.fr.length<=40
 wP:cN c.ob c.fr=true
 to:c.to.length=c.fr.length
 zO:cN c.ob c.to=true
 co:c.co.length=c.fr.length
 aN:(c.aN.length:Int)=c.ob
 wV:cN c.fr.length c.aN=true
theorem ak.FP{c:ak}:c.preB=true↔c.Pre:=by
 simp only[ak.preB,bq,Bool.and_eq_true,decide_eq_true_eq,beq_iff_eq];constructor
 ·rintro⟨⟨⟨⟨⟨⟨⟨⟨h1,h2⟩,h3⟩,h4⟩,h5⟩,h6⟩,h7⟩,h8⟩,h9⟩
  exact⟨h1,h2,h3,h4,by omega,h6,by omega,h8,h9⟩
 ·rintro⟨h1,h2,h3,h4,h5,h6,h7,h8,h9⟩
  exact⟨⟨⟨⟨⟨⟨⟨⟨h1,h2⟩,h3⟩,h4⟩,by omega⟩,h6⟩,by omega⟩,h8⟩,h9⟩
structure ak.Shape(c:ak):Prop extends ak.Pre c where
 ids:∀x,x<c.aN.length->c.jr x=true
 row:∀f,f<c.fr.length->(c.co.getD f []).length=c.fr.length
 cells:∀f g,f<c.fr.length->g<c.fr.length->c.gG f g=true
theorem ak.uV{c:ak}:c.gR=true↔c.Shape:=by
 simp only[ak.gR,ak.jG,Bool.and_eq_true,jO,ak.FP,beq_iff_eq];constructor
 ·rintro⟨⟨h1,h2⟩,h3⟩
  exact⟨h1,h2,fun f hf=>by have:=(h3 f hf).1;omega,fun f g hf hg=>(h3 f hf).2 g hg⟩
 ·rintro⟨h1,h2,h3,h4⟩
  exact⟨⟨h1,h2⟩,fun f hf=>⟨by have:=h3 f hf;omega,fun g hg=>h4 f g hf hg⟩⟩
theorem ak.Pre.iO{c:ak}(h:c.Pre):c.aN.length<=8:=by have:=h.aN;have:=h.xE;omega
theorem ak.Pre.idx{c:ak}(h:c.Pre){x:Nat}(hx:x<c.aN.length) : 0<=c.aN.getD x 0/\c.aN.getD x 0<c.fr.length:=fP h.wV hx
theorem ak.E1{c:ak}{x:Nat}(hx:x<c.aN.length)(h:c.jr x=false):c.gR=false:=by
 unfold ak.gR;rw[nn hx h];simp
theorem ak.xB{c:ak}{f:Nat}(hf:f<c.fr.length)(h:c.jG f=false):c.gR=false:=by
 unfold ak.gR;rw[nn hf h];simp
theorem ak.tW{c:ak}{f g:Nat}(hf:f<c.fr.length)(hg:g<c.fr.length)(h:c.gG f g=false):c.gR=false:=by
 refine ak.xB hf ?_;unfold ak.jG;rw[nn hg h];simp
theorem ak.D4{c:ak}(hp:c.Pre)(h1:cm c.aN.length c.jr=true)(h2:cm c.fr.length c.jG=true):c.gR=true:=by
 unfold ak.gR;rw[h1,h2,ak.FP.2 hp];rfl
theorem ak.tY{c:ak}(h:¬c.Pre):c.gR=false:=by
 cases hs:c.gR with
 | false=>rfl
 | true=>exact absurd (ak.uV.1 hs).toPre h
theorem mj{P:Nat->Prop}{n:Nat}(h:∀j,j<n->P j)(hn:P n):∀j,j<n+1->P j:=fun j hj=>by
 by_cases h1:j<n
 ·exact h j h1
 ·rw[show j=n by omega];exact hn
theorem kJ{α:Type}{F:Nat->Option α}:∀(n:Nat),(∀j,j<n->F j=none)->(List.range n).findSome? F=none:=by
 intro n h;rw[List.findSome?_eq_none_iff];intro x hx;exact h x (by simpa using hx)
theorem qX{α:Type}{F:Nat->Option α}{i:Nat}{r:α}:∀(n:Nat),(∀j,j<i->F j=none)->i<n->F i=some r->(List.range n).findSome? F=some r
 | 0,_,h,_=>by omega
 | n+1,h0,h1,h2=>by
  rw[List.range_succ,List.findSome?_append];by_cases h:i<n
  ·rw[qX n h0 h h2];rfl
  ·have:i=n:=by omega
   subst this;rw[kJ i h0];simp[h2]
def ak.bI(c:ak)(f g:Int):Int:=(c.co.getD f.toNat []).getD g.toNat 0
def ak.gi(c:ak)(x:Int):Int:=c.aN.getD x.toNat 0
def ak.nG(c:ak)(f:Nat):Bool:=c.bI (c.gi (c.fr.getD f 0)) f != f || c.bI f (c.gi (c.to.getD f 0)) != f
def ak.dy(c:ak)(f g h:Nat):Bool:=c.to.getD f 0 == c.fr.getD g 0&&c.to.getD g 0 == c.fr.getD h 0&&c.bI (c.bI f g) h != c.bI f (c.bI g h)
def ak.kI(c:ak):Int×Int×Int×Int :=
 match(List.range c.fr.length).findSome? fun f=>if c.nG f then some f else none with
 | some f=>(1,f,0,0)
 | none=>match(List.range c.fr.length).findSome? fun f=>(List.range c.fr.length).findSome? fun g=>(List.range c.fr.length).findSome? fun h=>if c.dy f g h then some (f,g,h) else none with
  | some (f,g,h)=>(2,f,g,h)
  | none=>(0,0,0,0)
section
variable{c:ak}
theorem ak.Cg{f g h:Nat}(h2:c.to.getD f 0≠c.fr.getD g 0):c.dy f g h=false:=by unfold ak.dy;rw[beq_eq_false_iff_ne.2 h2];rfl
theorem ak.Ch{f g h:Nat}(h2:c.to.getD f 0=c.fr.getD g 0):c.dy f g h=(c.to.getD g 0 == c.fr.getD h 0&&c.bI (c.bI f g) h != c.bI f (c.bI g h)):=by unfold ak.dy;rw[beq_iff_eq.2 h2];rfl
theorem ak.Dv{f:Nat}(h0:∀j,j<f->c.nG j=false)(h1:f<c.fr.length)(h2:c.nG f=true):c.kI=(1,(f:Int),0,0):=by
 unfold ak.kI;rw[qX (i:=f) (r:=f) _ (fun j hj=>by simp[h0 j hj]) h1 (by simp[h2])]
theorem ak.Dw(h0:∀j,j<c.fr.length->c.nG j=false)(h:∀f g h,f<c.fr.length->g<c.fr.length->h<c.fr.length->c.dy f g h=false):c.kI=(0,0,0,0):=by
 unfold ak.kI;rw[kJ _ (fun j hj=>by simp[h0 j hj])];simp only;rw[kJ _ fun f hf=>kJ _ fun g hg=>kJ _ fun h' hh=>by simp[h f g h' hf hg hh]]
theorem ak.Du{f g h:Nat}(h0:∀j,j<c.fr.length->c.nG j=false)(hf:f<c.fr.length)(hg:g<c.fr.length)(hh:h<c.fr.length)(h1:c.dy f g h=true)
  (h2:∀h',h'<h->c.dy f g h'=false) (h3:∀g' h',g'<g->h'<c.fr.length->c.dy f g' h'=false) (h4:∀f' g' h',f'<f->g'<c.fr.length->h'<c.fr.length->c.dy f' g' h'=false):c.kI=(2,(f:Int),(g:Int),(h:Int)):=by
 unfold ak.kI;rw[kJ _ (fun j hj=>by simp[h0 j hj])];simp only
 rw[qX (i:=f) (r:=(f,g,h)) _ (fun f' hf'=>kJ _ fun g' hg'=>kJ _ fun h' hh'=>by simp[h4 f' g' h' hf' hg' hh']) hf
  (qX (i:=g) _ (fun g' hg'=>kJ _ fun h' hh'=>by simp[h3 g' h' hg' hh']) hg (qX (i:=h) _ (fun h' hh'=>by simp[h2 h' hh']) hh (by simp[h1])))]
theorem ak.Shape.DE(hs:c.Shape){f:Nat}(hf:f<c.fr.length) : 0<=c.fr.getD f 0/\c.fr.getD f 0<c.aN.length:=by
 have:=fP hs.wP hf;have:=hs.aN;omega
theorem ak.Shape.JR(hs:c.Shape){f:Nat}(hf:f<c.fr.length) : 0<=c.to.getD f 0/\c.to.getD f 0<c.aN.length:=by
 have:=fP hs.zO (i:=f) (by have:=hs.to;omega);have:=hs.aN;omega
theorem ak.Shape.pt(hs:c.Shape){x:Int}(h0 : 0<=x)(h1:x<c.aN.length) : 0<=c.gi x/\c.gi x<c.fr.length:=hs.toPre.idx (x:=x.toNat) (by omega)
theorem ak.Shape.y4(hs:c.Shape){f:Int}(h0 : 0<=f)(h1:f<c.fr.length):(c.co.getD f.toNat []).length=c.fr.length:=hs.row f.toNat (by omega)
theorem ak.Shape.lU(hs:c.Shape){f g:Nat}(hf:f<c.fr.length)(hg:g<c.fr.length)(h:c.to.getD f 0=c.fr.getD g 0) : 0<=c.bI f g/\c.bI f g<c.fr.length/\c.fr.getD (c.bI f g).toNat 0=c.fr.getD f 0/\c.to.getD (c.bI f g).toNat 0=c.to.getD g 0:=by
 have hc:=hs.cells f g hf hg;unfold ak.gG at hc;rw[if_neg (by simp only[h,bne_self_eq_false];decide)] at hc;have e:c.cell f g=c.bI f g:=by simp[ak.cell,ak.bI]
 simp only[e,Bool.and_eq_true,decide_eq_true_eq,beq_iff_eq] at hc;exact⟨hc.1.1.1,hc.1.1.2,hc.1.2,hc.2⟩
theorem ak.Shape.CL(hs:c.Shape){f g:Nat}(hf:f<c.fr.length)(hg:g<c.fr.length)(h:c.to.getD f 0≠c.fr.getD g 0):c.bI f g=-1:=by
 have hc:=hs.cells f g hf hg;unfold ak.gG at hc;rw[if_pos (by simpa using h)] at hc;have e:c.cell f g=c.bI f g:=by simp[ak.cell,ak.bI]
 rw[e] at hc;simpa using hc
end
def fd(r:Int×Int×Int×Int):D:=.ah [.int .i64 r.1,.int .i64 r.2.1,.int .i64 r.2.2.1,.int .i64 r.2.2.2]
def ak.jv(c:ak):Bool:=c.gR&&c.kI.1 == 0
def A9:List Nat:=[0,2,1,3,4,5,6,7]
def IH:Sl:=ae Go.Proofs.Tryz.types Go.Proofs.Tryz.f128 A9 []
theorem QA:aD Go.Proofs.Tryz.prog Go.Proofs.Tryz.f128 A9 IH 1=true:=by decide +kernel
theorem TE(c:ak):al Go.Proofs.Tryz.prog 128 [.v c.d] (.bool c.gR):=by
 refine aC Go.Proofs.Tryz.func128 QA ?_;unfold IH ae A9;simp only[go_sem];refine af (yV _ _ _) rfl (.inl rfl) ?_;simp only[go_sem];refine⟨fun h=>by simpa using h,?_⟩;refine bt (fun h=>G7 c.fr c.fr.length c.ob) rfl (fun h=>by simpa using h) (.inl rfl) ?_;simp only[go_sem];refine⟨fun h=>by simp_all,?_⟩;refine bt (fun h=>G7 c.to c.fr.length c.ob) rfl (fun h=>by simpa using h) (.inl rfl) ?_;simp only[go_sem];refine⟨fun h=>by simp_all,fun h=>by simp_all,fun h=>?_,fun h=>?_⟩
 ·symm;refine ak.tY fun hp=>?_
  have h1:bq c.ob 0 8=true:=by simp[bq,hp.pO,hp.xE]
  have h2:=hp.fr;simp[h1,hp.wP,hp.to,hp.zO,hp.co] at h;omega
 refine bt (fun h=>qe c.fr.length c.aN) rfl (fun h=>by simpa using h) (.inl rfl) ?_;simp only[go_sem];refine⟨fun h=>by simp_all,fun h2=>?_,fun h2=>?_⟩
 ·symm;refine ak.tY fun hp=>?_
  simp[hp.aN,hp.wV] at h2
 have hp:c.Pre:=by
  simp only[Bool.or_eq_false_iff,Bool.not_eq_false',bne_eq_false_iff_eq,decide_eq_false_iff_not,bq,Bool.and_eq_true,decide_eq_true_eq,beq_iff_eq] at h h2;obtain⟨⟨⟨⟨h1,h3⟩,h4⟩,h5⟩,h6⟩:=h;exact⟨h1.1,h1.2,by omega,h4.2,by omega,h5.2,by omega,h2.1,h2.2⟩
 clear h h2;refine aJ [] (fun(x:Nat)=>[(4,.int .i64 x)]) (fun x=>x<=c.aN.length/\cm x c.jr=true) (fun x=>c.aN.length-x) 0 rfl ⟨Nat.zero_le _,rfl⟩ rfl ?_;rintro x ⟨hx,ha⟩;simp only[go_sem];have hob:=hp.aN;refine⟨fun h=>?_,fun h=>?_⟩
 ·have hx':x<c.aN.length:=by omega
  have hid:=hp.idx hx';have hto:=hp.to;refine⟨hx',hid,fun h=>⟨h,hx'⟩,fun h=>⟨h,hid.1,by omega⟩,fun h=>by simpa using h,fun h=>?_,fun h=>?_⟩
  ·exact(ak.E1 hx' (by simp only[ak.jr];rw[Bool.or_eq_true,bne_iff_ne,bne_iff_ne] at h;rw[Bool.and_eq_false_iff,beq_eq_false_iff_ne,beq_eq_false_iff_ne];exact h)).symm
  ·exact⟨x+1,⟨by omega,jP ha (by simpa[ak.jr] using h)⟩,by omega,by rw[aH hx' (by have:=hp.iO;simp only[maxLen];omega)]⟩
 have hx':x=c.aN.length:=by omega
 subst hx';have hm:=hp.fr;have hco:=hp.co;have hto:=hp.to;refine aJ [6,7] (fun(f:Nat)=>[(5,.int .i64 f)]) (fun f=>f<=c.fr.length/\cm f c.jG=true) (fun f=>c.fr.length-f) 0 rfl ⟨Nat.zero_le _,rfl⟩ rfl ?_;rintro f ⟨hf,hb⟩;simp only[go_sem];refine⟨fun hfl=>⟨by omega,fun h2=>?_,fun h2=>?_⟩,fun h=>?_⟩
 ·exact(ak.xB hfl (by simp only[ak.jG];rw[Bool.and_eq_false_iff];left;simpa using h2)).symm
 ·refine aJ [7] (fun(g:Nat)=>[(6,.int .i64 g)]) (fun g=>g<=c.fr.length/\cm g (c.gG f)=true) (fun g=>c.fr.length-g) 0 rfl ⟨Nat.zero_le _,rfl⟩ rfl ?_
  rintro g ⟨hg,hc⟩;simp only[go_sem]
  have hrow:(c.co.getD f []).length=c.fr.length:=by
   rw[bne_eq_false_iff_eq] at h2;omega
  have hcb:c.gG f g=if c.to.getD f 0 != c.fr.getD g 0 then(c.co.getD f []).getD g 0 == -1
   else decide (0<=(c.co.getD f []).getD g 0)&&decide ((c.co.getD f []).getD g 0<c.fr.length)&&(c.fr.getD ((c.co.getD f []).getD g 0).toNat 0 == c.fr.getD f 0)&&(c.to.getD ((c.co.getD f []).getD g 0).toNat 0 == c.to.getD g 0):=rfl
  generalize(c.co.getD f []).getD g 0=h at hcb;refine⟨fun hgl=>?_,fun hgl=>?_⟩
  ·have step:c.gG f g=true->∃x',(x'<=c.fr.length/\cm x' (c.gG f)=true)/\c.fr.length-x'<c.fr.length-g/\IntKind.i64.wrap ((g:Int)+1)=(x':Int):=fun hh=>⟨g+1,⟨by omega,jP hc hh⟩,by omega,aH hgl (by simp only[maxLen];omega)⟩
   refine⟨by omega,by omega,by omega,hgl,fun h3=>⟨fun h4=>?_,fun h4=>?_⟩,fun h3=>⟨fun h4=>by simp_all,fun h4=>⟨h4,by simp at h4;omega⟩,fun h4=>⟨h4,by omega⟩,fun h4=>by simpa only[<-Bool.not_or,Bool.not_eq_true'] using h4,fun h4=>⟨h4,by simp at h4;omega⟩,fun h4=>⟨h4,by omega⟩,fun h4=>by simpa only[<-Bool.not_or,Bool.not_eq_true'] using h4,fun h4=>?_,fun h4=>?_⟩⟩
   ·exact(ak.tW hfl hgl (by rw[hcb,if_pos h3];simpa using h4)).symm
   ·obtain⟨x',e1,e2,e3⟩:=step (by rw[hcb,if_pos h3];simpa using h4)
    exact⟨x',e1,e2,by rw[e3]⟩
   ·refine(ak.tW hfl hgl ?_).symm
    rw[hcb,if_neg (by rw[h3];decide)];simp only[Bool.or_eq_true,decide_eq_true_eq,bne_iff_ne] at h4;simp only[Bool.and_eq_false_iff,decide_eq_false_iff_not,beq_eq_false_iff_ne];omega
   ·obtain⟨x',e1,e2,e3⟩:=step (by
     rw[hcb,if_neg (by rw[h3];decide)];simp only[Bool.or_eq_false_iff,decide_eq_false_iff_not,bne_eq_false_iff_eq] at h4;simp only[Bool.and_eq_true,decide_eq_true_eq,beq_iff_eq]
     omega)
    exact⟨x',e1,e2,by rw[e3]⟩
  ·have:g=c.fr.length:=by omega
   subst this;refine⟨f+1,⟨by omega,jP hb (by simp only[ak.jG];rw[hc,hrow];simp)⟩,by omega,by rw[aH hfl (by simp only[maxLen];omega)]⟩
 ·have:f=c.fr.length:=by omega
  subst this;exact(ak.D4 hp ha hb).symm
def Bl:List Nat:=[0,2,3,4,5,1,6,7,8,9,10]
def IV:Sl:=ae Go.Proofs.Tryz.types Go.Proofs.Tryz.f129 Bl []
theorem QM:aD Go.Proofs.Tryz.prog Go.Proofs.Tryz.f129 Bl IV 1=true:=by decide +kernel
theorem TM(c:ak)(hs:c.Shape):al Go.Proofs.Tryz.prog 129 [.v c.d] (fd c.kI):=by
 have hm:=hs.fr;have hml:c.fr.length<=maxLen:=by simp only[maxLen];omega
 have hto:=hs.to;have hco:=hs.co;have cI:∀f g:Int,(c.co.getD f.toNat []).getD g.toNat 0=c.bI f g:=fun _ _=>rfl
 have iI:∀x:Int,c.aN.getD x.toNat 0=c.gi x:=fun _=>rfl
 refine aC Go.Proofs.Tryz.func129 QM ?_;unfold IV ae Bl;simp only[go_sem];refine aJ [] (fun(f:Nat)=>[(7,.int .i64 f)]) (fun f=>f<=c.fr.length/\∀j,j<f->c.nG j=false) (fun f=>c.fr.length-f) 0 rfl ⟨Nat.zero_le _,fun j hj=>by omega⟩ rfl ?_;rintro f ⟨hf,ha⟩;simp only[go_sem];refine⟨fun h=>?_,fun h=>?_⟩
 ·have e1:=hs.DE h
  have e2:=hs.pt e1.1 e1.2;have e3:=hs.y4 e2.1 e2.2;have e4:=hs.JR h;have e5:=hs.pt e4.1 e4.2;have e6:=hs.row f h;simp only[ak.gi] at e2 e3 e5;refine⟨h,e1,⟨e2.1,by omega⟩,by omega,fun h2=>⟨h2,by omega⟩,fun h2=>⟨h2,by omega⟩,fun h2=>⟨h2,e4⟩,fun h2=>⟨h2,e5.1,by omega⟩,fun h2=>by simpa only[Bool.not_eq_true'] using h2,fun h2=>?_,fun h2=>?_⟩
  ·rw[ak.Dv ha h h2];rfl
  ·exact⟨f+1,⟨by omega,fun j hj=>by by_cases hjf:j<f;exact ha j hjf;rw[show j=f by omega];exact h2⟩,by omega,by rw[aH h hml]⟩
 have:f=c.fr.length:=by omega
 subst this;refine aJ [9,10] (fun(f:Nat)=>[(8,.int .i64 f)]) (fun f=>f<=c.fr.length/\∀f' g' h',f'<f->g'<c.fr.length->h'<c.fr.length->c.dy f' g' h'=false) (fun f=>c.fr.length-f) 0 rfl ⟨Nat.zero_le _,fun _ _ _ hj=>by omega⟩ rfl ?_;rintro f ⟨hf,hb⟩;simp only[go_sem];refine⟨fun hfl=>?_,fun h=>?_⟩
 ·refine aJ [10] (fun(g:Nat)=>[(9,.int .i64 g)]) (fun g=>g<=c.fr.length/\∀g' h',g'<g->h'<c.fr.length->c.dy f g' h'=false) (fun g=>c.fr.length-g) 0 rfl ⟨Nat.zero_le _,fun _ _ hj=>by omega⟩ rfl ?_
  rintro g ⟨hg,hc⟩;simp only[go_sem];refine⟨fun hgl=>⟨by omega,hgl,fun h2=>?_,fun h2=>?_⟩,fun h=>?_⟩
  ·refine⟨g+1,⟨by omega,fun g' h' hg' hh'=>mj (P:=fun g'=>c.dy f g' h'=false) (fun j hj=>hc j h' hj hh') ?_ g' hg'⟩,by omega,by rw[aH hgl hml]⟩
   rw[bne_iff_ne] at h2;exact ak.Cg h2
  ·rw[bne_eq_false_iff_eq] at h2
   have e1:=hs.lU hfl hgl h2;refine aJ [] (fun(h:Nat)=>[(10,.int .i64 h)]) (fun h=>h<=c.fr.length/\∀h',h'<h->c.dy f g h'=false) (fun h=>c.fr.length-h) 0 rfl ⟨Nat.zero_le _,fun _ hj=>by omega⟩ rfl ?_;rintro h ⟨hh,hd⟩;simp only[go_sem];have e3:=hs.y4 e1.1 e1.2.1;have e4:=hs.row f hfl;have e5:=hs.row g hgl;have hasf:=fun h=>ak.Ch (h:=h) h2
   refine⟨fun hhl=>?_,fun h3=>?_⟩
   ·have e6:=hs.lU hgl hhl
    refine⟨by omega,hhl,fun h3=>⟨h3,by omega⟩,fun h3=>⟨h3,by omega⟩,fun h3=>⟨h3,e1.1,by rw[hco];exact e1.2.1⟩,fun h3=>⟨h3,Nat.lt_of_lt_of_eq hhl e3.symm⟩,fun h3=>⟨h3,by omega⟩,fun h3=>⟨h3,by omega⟩,fun h3=>⟨h3,by omega⟩,
     fun h3=>⟨h3,(e6 h3).1,by rw[e4];exact(e6 h3).2.1⟩,fun h3=>?_,fun h3=>?_⟩
    ·rw[ak.Du ha hfl hgl hhl (by rw[hasf];exact h3) hd hc hb];rfl
    ·exact⟨h+1,⟨by omega,mj hd (by rw[hasf];exact h3)⟩,by omega,by rw[aH hhl hml]⟩
   ·have:h=c.fr.length:=by omega
    subst this;exact⟨g+1,⟨by omega,fun g' h' hg' hh'=>mj (P:=fun g'=>c.dy f g' h'=false) (fun j hj=>hc j h' hj hh') (hd h' hh') g' hg'⟩,by omega,by rw[aH hgl hml]⟩
  ·refine⟨f+1,⟨by omega,fun f' g' h' hf' hg' hh'=>mj (P:=fun f'=>c.dy f' g' h'=false) (fun j hj=>hb j g' h' hj hg' hh') (hc g' h' (by omega) hh') f' hf'⟩,by omega,by rw[aH hfl hml]⟩
 ·have:f=c.fr.length:=by omega
  subst this;rw[ak.Dw ha hb];rfl
def Bn:List Nat:=[0,2,1,3]
def IW:Sl:=ae Go.Proofs.Tryz.types Go.Proofs.Tryz.f103 Bn []
theorem QN:aD Go.Proofs.Tryz.prog Go.Proofs.Tryz.f103 Bn IW 1=true:=by decide +kernel
theorem TN(c:ak):al Go.Proofs.Tryz.prog 103 [.v c.d] (.bool c.jv):=by
 refine aC Go.Proofs.Tryz.func103 QN ?_;unfold IW ae Bn;simp only[go_sem];refine af (TE c) rfl (.inl rfl) ?_;simp only[go_sem];refine⟨fun h=>?_,fun h=>?_⟩
 ·unfold ak.jv;rw[Bool.not_eq_true'] at h;rw[h];rfl
 rw[Bool.not_eq_false'] at h;refine af (TM c (ak.uV.1 h)) rfl (.inl rfl) ?_;simp only[fd];simp only[go_sem];unfold ak.jv;rw[h];rfl
def Bo:List Nat:=[0,2,1]
def IX:Sl:=ae Go.Proofs.Tryz.types Go.Proofs.Tryz.f104 Bo []
theorem QO:aD Go.Proofs.Tryz.prog Go.Proofs.Tryz.f104 Bo IX 1=true:=by decide +kernel
theorem G8(a:ak)(hs:ak.cost a<=1048576):al Go.Proofs.Tryz.prog 104 [.v (ak.d a)] (ak.d a):=by
 unfold ak.cost at hs;refine aC Go.Proofs.Tryz.func104 QO ?_;unfold IX ae Bo;simp only[go_sem];refine af (gP a.fr (by omega)) rfl (.inl (bJ _)) ?_;simp only[go_sem];refine af (gP a.to (by omega)) rfl (.inl (bJ _)) ?_;simp only[go_sem];refine af (gP a.aN (by omega)) rfl (.inl (bJ _)) ?_;simp only[go_sem];refine af (TK a.co (by omega)) rfl (.inl (ua _)) ?_;simp only[go_sem]
 all_goals rfl
def iP(l:List Int)(x:Int):Int:=if l.findIdx (·== x)<l.length then((l.findIdx (·== x):Nat):Int) else -1
def Bc:List Nat:=[0,1,4,5]
def IK:Sl:=ae Go.Proofs.Tryz.types Go.Proofs.Tryz.f197 Bc []
theorem QD:aD Go.Proofs.Tryz.prog Go.Proofs.Tryz.f197 Bc IK 2=true:=by decide +kernel
theorem TH(l:List Int)(x:Int)(hl:l.length<=1048576):al Go.Proofs.Tryz.prog 197 [.v (ints l),.v (.int .i64 x)] (.int .i64 (iP l x)):=by
 refine aC Go.Proofs.Tryz.func197 QD ?_;unfold IK ae Bc;simp only[go_sem];refine aJ [] (fun i:Nat=>[(3,.int .i64 i)]) (fun i=>i<=l.findIdx (·== x)) (fun i=>l.length-i) 0 (by simp only[go_sem];rfl) (Nat.zero_le _) rfl ?_;intro i hi;have hfl:=List.findIdx_le_length (p:=(·== x)) (xs:=l);simp only[go_sem];refine⟨fun h1=>⟨h1,fun h2=>?_,fun h2=>⟨i+1,?_,by omega,by rw[aH h1 (by simp only[maxLen];omega)]⟩⟩,fun h1=>?_⟩
 ·have:l.findIdx (·== x)<=i:=by
   apply Nat.le_of_not_lt;intro hh;have:=List.not_of_lt_findIdx hh;rw[<-aO (d:=0) h1,h2] at this;simp at this
  have e:l.findIdx (·== x)=i:=by omega
  unfold iP;rw[e,if_pos h1]
 ·by_cases hlt:i<l.findIdx (·== x)
  ·omega
  ·have e:l.findIdx (·== x)=i:=by omega
   have:=List.findIdx_getElem (w:=show l.findIdx (·== x)<l.length by omega);simp only[e] at this;rw[<-aO (d:=0) h1,h2] at this;cases this
 ·unfold iP
  rw[if_neg (by omega)]
def Bp:List Nat:=[0,1,2,6,3]
def IY:Sl:=ae Go.Proofs.Tryz.types Go.Proofs.Tryz.f110 Bp []
theorem QP:aD Go.Proofs.Tryz.prog Go.Proofs.Tryz.f110 Bp IY 3=true:=by decide +kernel
theorem TO(c:ak)(f g:Int)(h0 : 0<=f)(h1:f<c.co.length)(h2 : 0<=g)(h3:g<(c.co.getD f.toNat []).length):al Go.Proofs.Tryz.prog 110 [.v c.d,.v (.int .i64 f),.v (.int .i64 g)] (.int .i64 (c.bI f g)):=by
 refine aC Go.Proofs.Tryz.func110 QP ?_;unfold IY ae Bp;simp only[go_sem];exact⟨⟨h0,h1⟩,⟨h2,h3⟩,rfl⟩
def lexB:List Int->List Int->Bool
 | [],[]=>false
 | [],_::_=>true
 | _::_,[]=>false
 | a::l,b::r=>if a=b then lexB l r else decide (a<b)
theorem Nb{a b:List Int}{i:Nat}(ha:i<a.length)(hb:i<b.length)(h:a.getD i 0=b.getD i 0):lexB (a.drop i) (b.drop i)=lexB (a.drop (i+1)) (b.drop (i+1)):=by
 rw[aO ha,aO hb] at h;rw[List.drop_eq_getElem_cons ha,List.drop_eq_getElem_cons hb];simp only[lexB,h,if_true]
def Be:List Nat:=[0,1,4,5]
def IM:Sl:=ae Go.Proofs.Tryz.types Go.Proofs.Tryz.f161 Be []
theorem QF:aD Go.Proofs.Tryz.prog Go.Proofs.Tryz.f161 Be IM 2=true:=by decide +kernel
theorem TJ(a b:List Int)(hl:a.length<=1048576):al Go.Proofs.Tryz.prog 161 [.v (ints a),.v (ints b)] (.bool (lexB a b)):=by
 refine aC Go.Proofs.Tryz.func161 QF ?_;unfold IM ae Be;simp only[go_sem];refine aJ [] (fun i:Nat=>[(3,.int .i64 i)]) (fun i=>i<=a.length/\i<=b.length/\lexB a b=lexB (a.drop i) (b.drop i)) (fun i=>a.length-i) 0 (by simp only[go_sem];rfl) ⟨Nat.zero_le _,Nat.zero_le _,rfl⟩ rfl ?_;rintro i ⟨hi,hi2,hs⟩;simp only[go_sem];refine⟨fun h=>?_,fun h=>?_⟩
 ·simp only[Bool.and_eq_true,decide_eq_true_eq] at h
  refine⟨h.1,h.2,fun h2=>⟨h.1,h.2,?_⟩,fun h2=>⟨i+1,⟨h.1,h.2,?_⟩,by omega,by rw[aH h.1 (by simp only[maxLen];omega)]⟩⟩
  ·have h3:a.getD i 0≠b.getD i 0:=by simpa using h2
   rw[hs,List.drop_eq_getElem_cons h.1,List.drop_eq_getElem_cons h.2];rw[aO h.1,aO h.2] at h3|-
   simp only[lexB,if_neg h3]
  ·have h3:a.getD i 0=b.getD i 0:=by simpa using h2
   rw[hs,Nb h.1 h.2 h3]
 ·rw[hs]
  by_cases h1:i<a.length
  ·have h2:¬i<b.length:=by simp only[h1,decide_true,Bool.true_and,decide_eq_false_iff_not] at h;exact h
   rw[List.drop_eq_getElem_cons h1,List.drop_eq_nil_of_le (show b.length<=i by omega)];simp only[lexB,decide_eq_false_iff_not];omega
  ·rw[List.drop_eq_nil_of_le (show a.length<=i by omega)]
   by_cases h2:i<b.length
   ·rw[List.drop_eq_getElem_cons h2];simp only[lexB,decide_eq_true_eq];omega
   ·rw[List.drop_eq_nil_of_le (show b.length<=i by omega)];simp only[lexB,decide_eq_false_iff_not];omega
def Bi:List Nat:=[0,1,4,5]
def IS:Sl:=ae Go.Proofs.Tryz.types Go.Proofs.Tryz.f83 Bi []
theorem QJ:aD Go.Proofs.Tryz.prog Go.Proofs.Tryz.f83 Bi IS 2=true:=by decide +kernel
theorem qf(a b:List Int)(hl:a.length<=1048576):al Go.Proofs.Tryz.prog 83 [.v (ints a),.v (ints b)] (.bool (a == b)):=by
 refine aC Go.Proofs.Tryz.func83 QJ ?_;unfold IS ae Bi;simp only[go_sem];refine⟨fun h=>?_,fun h=>?_⟩
 ·have:a≠b:=fun e=>by subst e;simp at h
  simpa using this
 have hab:a.length=b.length:=by simp at h;omega
 refine aJ [] (fun i:Nat=>[(3,.int .i64 i)]) (fun i=>i<=a.length/\∀j,j<i->a.getD j 0=b.getD j 0) (fun i=>a.length-i) 0 (by simp only[go_sem];rfl) ⟨Nat.zero_le _,fun j hj=>by omega⟩ rfl ?_;rintro i ⟨hi,hs⟩;simp only[go_sem];refine⟨fun h1=>⟨h1,by omega,fun h2=>?_,fun h2=>⟨i+1,⟨by omega,fun j hj=>?_⟩,by omega,by rw[aH h1 (by simp only[maxLen];omega)]⟩⟩,fun h1=>?_⟩
 ·have:a≠b:=fun e=>by subst e;simp at h2
  simpa using this
 ·by_cases hji:j=i
  ·subst hji;simpa using h2
  ·exact hs j (by omega)
 ·have:a=b:=by
   apply List.ext_getElem hab;intro j h3 h4;have:=hs j (by omega)
   rwa [aO h3,aO h4] at this
  simpa using this
end Go.D3
