/- DATA OF SCHEMAS: changes. Plain laws; the program's (*data).apply. -/
import Derived.Test.YtpnchponfnbmiaaGreatDoorGAA
namespace Go.D3
open Go
set_option maxHeartbeats 4000000
set_option maxRecDepth 100000
structure ai where
 ob:Int
 fr:List (Int)
 to:List (Int)
 aL:List (Int)
 co:List (List (Int))
def ai.cells(x:ai):List D:=[.int .i64 x.ob,ints x.fr,ints x.to,ints x.aL,aO x.co]
def ai.d(x:ai):D:=.agg x.cells
def ai.zero:ai:=⟨0,[],[],[],[]⟩
def ai.cost(x:ai):Nat:=x.fr.length+x.to.length+x.aL.length+cN List.length x.co
theorem SP:D.slice (.agg [.int .i64 0,ints [],ints [],ints [],aO []]) []=U ai.d ai.zero []:=rfl
theorem Qr{n:Nat}:D.slice (.agg [.int .i64 0,ints [],ints [],ints [],aO []]) (List.replicate n (.agg [.int .i64 0,ints [],ints [],ints [],aO []]))=U ai.d ai.zero (List.replicate n ai.zero):=by unfold U;rw[List.map_replicate];rfl
theorem Sn{l:List ai}{i:Nat}{ob:Int}{fr:List (Int)}{to:List (Int)}{aL:List (Int)}{co:List (List (Int))}:cY (.o (U ai.d ai.zero l)) [(i,0)] 0 [.int .i64 ob,ints fr,ints to,ints aL,aO co]=.o (U ai.d ai.zero (l.set i ⟨ob,fr,to,aL,co⟩)):=mi (n:=5) (fun _=>⟨_,rfl,rfl⟩) rfl
attribute [go_sem] ai.cells.eq_1 ai.d.eq_1 SP Qr
attribute [go_sem high] Sn
theorem sV(x:ai):x.d.bd=true:=by simp only[ai.d,ai.cells,D.bd,dU,bL,qI,Bool.and_self]
def Ai:List Nat:=[0,1,2,6]
def G9:Sl:=ae Go.Proofs.Tryz.types Go.Proofs.Tryz.f163 Ai []
theorem OK:aD Go.Proofs.Tryz.prog Go.Proofs.Tryz.f163 Ai G9 3=true:=by decide +kernel
theorem Fg(l:List Int)(n ob:Int):al Go.Proofs.Tryz.prog 163 [.v (ints l),.v (.int .i64 n),.v (.int .i64 ob)] (.bool ((l.length:Int) == n&&cL ob l)):=by
 refine aA Go.Proofs.Tryz.func163 OK ?_;unfold G9 ae Ai;simp only[go_sem];refine bO (fun h=>pG ob l) rfl (fun h=>by simp[h]) (.inl rfl) ?_;simp only[go_sem]
def ca(n:Nat)(p:Nat->Bool):Bool:=(List.range n).all p
theorem jw{n:Nat}{p:Nat->Bool}:ca n p=true↔∀i,i<n->p i=true:=by simp[ca]
theorem jx{n:Nat}{p:Nat->Bool}(h:ca n p=true)(hp:p n=true):ca (n+1) p=true:=by
 rw[jw] at *;intro i hi;by_cases h1:i<n
 ·exact h i h1
 ·rw[show i=n by omega];exact hp
theorem mH{n i:Nat}{p:Nat->Bool}(hi:i<n)(hp:p i=false):ca n p=false:=by
 cases h:ca n p with
 | false=>rfl
 | true=>rw[jw.1 h i hi] at hp;cases hp
def ai.preB(c:ai):Bool:=bm c.ob 0 8&&decide (c.fr.length<=40)&&cL c.ob c.fr&&((c.to.length:Int) == c.fr.length)&&cL c.ob c.to&&((c.co.length:Int) == c.fr.length)&&((c.aL.length:Int) == c.ob)&&cL c.fr.length c.aL
def ai.iY(c:ai)(x:Nat):Bool:=c.fr.getD (c.aL.getD x 0).toNat 0 == (x:Int)&&c.to.getD (c.aL.getD x 0).toNat 0 == (x:Int)
def ai.cell(c:ai)(f g:Nat):Int:=(c.co.getD f []).getD g 0
def ai.gm(c:ai)(f g:Nat):Bool :=
 if c.to.getD f 0 != c.fr.getD g 0 then c.cell f g == -1
 else decide (0<=c.cell f g)&&decide (c.cell f g<c.fr.length)&&(c.fr.getD (c.cell f g).toNat 0 == c.fr.getD f 0)&&(c.to.getD (c.cell f g).toNat 0 == c.to.getD g 0)
def ai.jm(c:ai)(f:Nat):Bool:=((c.co.getD f []).length:Int) == c.fr.length&&ca c.fr.length (c.gm f)
def ai.gC(c:ai):Bool:=c.preB&&ca c.aL.length c.iY&&ca c.fr.length c.jm
structure ai.Pre(c:ai):Prop where
 pj : 0<=c.ob
 wB:c.ob<=8
 fr:c.fr.length<=40
 vA:cL c.ob c.fr=true
 to:c.to.length=c.fr.length
 yD:cL c.ob c.to=true
 co:c.co.length=c.fr.length
 aL:(c.aL.length:Int)=c.ob
 vG:cL c.fr.length c.aL=true
theorem ai.Ef{c:ai}:c.preB=true↔c.Pre:=by
 simp only[ai.preB,bm,Bool.and_eq_true,decide_eq_true_eq,beq_iff_eq];constructor
 ·rintro⟨⟨⟨⟨⟨⟨⟨⟨h1,h2⟩,h3⟩,h4⟩,h5⟩,h6⟩,h7⟩,h8⟩,h9⟩
  exact⟨h1,h2,h3,h4,by omega,h6,by omega,h8,h9⟩
 ·rintro⟨h1,h2,h3,h4,h5,h6,h7,h8,h9⟩
  exact⟨⟨⟨⟨⟨⟨⟨⟨h1,h2⟩,h3⟩,h4⟩,by omega⟩,h6⟩,by omega⟩,h8⟩,h9⟩
structure ai.Shape(c:ai):Prop extends ai.Pre c where
 ids:∀x,x<c.aL.length->c.iY x=true
 row:∀f,f<c.fr.length->(c.co.getD f []).length=c.fr.length
 cells:∀f g,f<c.fr.length->g<c.fr.length->c.gm f g=true
theorem ai.tL{c:ai}:c.gC=true↔c.Shape:=by
 simp only[ai.gC,ai.jm,Bool.and_eq_true,jw,ai.Ef,beq_iff_eq];constructor
 ·rintro⟨⟨h1,h2⟩,h3⟩
  exact⟨h1,h2,fun f hf=>by have:=(h3 f hf).1;omega,fun f g hf hg=>(h3 f hf).2 g hg⟩
 ·rintro⟨h1,h2,h3,h4⟩
  exact⟨⟨h1,h2⟩,fun f hf=>⟨by have:=h3 f hf;omega,fun g hg=>h4 f g hf hg⟩⟩
theorem ai.Pre.iw{c:ai}(h:c.Pre):c.aL.length<=8:=by have:=h.aL;have:=h.wB;omega
theorem ai.Pre.idx{c:ai}(h:c.Pre){x:Nat}(hx:x<c.aL.length) : 0<=c.aL.getD x 0/\c.aL.getD x 0<c.fr.length:=gw h.vG hx
theorem ai.Dw{c:ai}{x:Nat}(hx:x<c.aL.length)(h:c.iY x=false):c.gC=false:=by
 unfold ai.gC;rw[mH hx h];simp
theorem ai.wy{c:ai}{f:Nat}(hf:f<c.fr.length)(h:c.jm f=false):c.gC=false:=by
 unfold ai.gC;rw[mH hf h];simp
theorem ai.sS{c:ai}{f g:Nat}(hf:f<c.fr.length)(hg:g<c.fr.length)(h:c.gm f g=false):c.gC=false:=by
 refine ai.wy hf ?_;unfold ai.jm;rw[mH hg h];simp
theorem ai.CE{c:ai}(hp:c.Pre)(h1:ca c.aL.length c.iY=true)(h2:ca c.fr.length c.jm=true):c.gC=true:=by
 unfold ai.gC;rw[h1,h2,ai.Ef.2 hp];rfl
theorem ai.sT{c:ai}(h:¬c.Pre):c.gC=false:=by
 cases hs:c.gC with
 | false=>rfl
 | true=>exact absurd (ai.tL.1 hs).toPre h
theorem lQ{P:Nat->Prop}{n:Nat}(h:∀j,j<n->P j)(hn:P n):∀j,j<n+1->P j:=fun j hj=>by
 by_cases h1:j<n
 ·exact h j h1
 ·rw[show j=n by omega];exact hn
theorem kj{α:Type}{F:Nat->Option α}:∀(n:Nat),(∀j,j<n->F j=none)->(List.range n).findSome? F=none:=by
 intro n h;rw[List.findSome?_eq_none_iff];intro x hx;exact h x (by simpa using hx)
theorem qp{α:Type}{F:Nat->Option α}{i:Nat}{r:α}:∀(n:Nat),(∀j,j<i->F j=none)->i<n->F i=some r->(List.range n).findSome? F=some r
 | 0,_,h,_=>by omega
 | n+1,h0,h1,h2=>by
  rw[List.range_succ,List.findSome?_append];by_cases h:i<n
  ·rw[qp n h0 h h2];rfl
  ·have:i=n:=by omega
   subst this;rw[kj i h0];simp[h2]
def ai.bE(c:ai)(f g:Int):Int:=(c.co.getD f.toNat []).getD g.toNat 0
def ai.fQ(c:ai)(x:Int):Int:=c.aL.getD x.toNat 0
def ai.mY(c:ai)(f:Nat):Bool:=c.bE (c.fQ (c.fr.getD f 0)) f != f || c.bE f (c.fQ (c.to.getD f 0)) != f
def ai.dy(c:ai)(f g h:Nat):Bool:=c.to.getD f 0 == c.fr.getD g 0&&c.to.getD g 0 == c.fr.getD h 0&&c.bE (c.bE f g) h != c.bE f (c.bE g h)
def ai.kg(c:ai):Int×Int×Int×Int :=
 match(List.range c.fr.length).findSome? fun f=>if c.mY f then some f else none with
 | some f=>(1,f,0,0)
 | none=>match(List.range c.fr.length).findSome? fun f=>(List.range c.fr.length).findSome? fun g=>(List.range c.fr.length).findSome? fun h=>if c.dy f g h then some (f,g,h) else none with
  | some (f,g,h)=>(2,f,g,h)
  | none=>(0,0,0,0)
section
variable{c:ai}
theorem ai.A8{f g h:Nat}(h2:c.to.getD f 0≠c.fr.getD g 0):c.dy f g h=false:=by unfold ai.dy;rw[beq_eq_false_iff_ne.2 h2];rfl
theorem ai.A9{f g h:Nat}(h2:c.to.getD f 0=c.fr.getD g 0):c.dy f g h=(c.to.getD g 0 == c.fr.getD h 0&&c.bE (c.bE f g) h != c.bE f (c.bE g h)):=by unfold ai.dy;rw[beq_iff_eq.2 h2];rfl
theorem ai.B8{f:Nat}(h0:∀j,j<f->c.mY j=false)(h1:f<c.fr.length)(h2:c.mY f=true):c.kg=(1,(f:Int),0,0):=by
 unfold ai.kg;rw[qp (i:=f) (r:=f) _ (fun j hj=>by simp[h0 j hj]) h1 (by simp[h2])]
theorem ai.B9(h0:∀j,j<c.fr.length->c.mY j=false)(h:∀f g h,f<c.fr.length->g<c.fr.length->h<c.fr.length->c.dy f g h=false):c.kg=(0,0,0,0):=by
 unfold ai.kg;rw[kj _ (fun j hj=>by simp[h0 j hj])];simp only;rw[kj _ fun f hf=>kj _ fun g hg=>kj _ fun h' hh=>by simp[h f g h' hf hg hh]]
theorem ai.B7{f g h:Nat}(h0:∀j,j<c.fr.length->c.mY j=false)(hf:f<c.fr.length)(hg:g<c.fr.length)(hh:h<c.fr.length)(h1:c.dy f g h=true)
  (h2:∀h',h'<h->c.dy f g h'=false) (h3:∀g' h',g'<g->h'<c.fr.length->c.dy f g' h'=false) (h4:∀f' g' h',f'<f->g'<c.fr.length->h'<c.fr.length->c.dy f' g' h'=false):c.kg=(2,(f:Int),(g:Int),(h:Int)):=by
 unfold ai.kg;rw[kj _ (fun j hj=>by simp[h0 j hj])];simp only
 rw[qp (i:=f) (r:=(f,g,h)) _ (fun f' hf'=>kj _ fun g' hg'=>kj _ fun h' hh'=>by simp[h4 f' g' h' hf' hg' hh']) hf
  (qp (i:=g) _ (fun g' hg'=>kj _ fun h' hh'=>by simp[h3 g' h' hg' hh']) hg (qp (i:=h) _ (fun h' hh'=>by simp[h2 h' hh']) hh (by simp[h1])))]
theorem ai.Shape.Cg(hs:c.Shape){f:Nat}(hf:f<c.fr.length) : 0<=c.fr.getD f 0/\c.fr.getD f 0<c.aL.length:=by
 have:=gw hs.vA hf;have:=hs.aL;omega
theorem ai.Shape.HV(hs:c.Shape){f:Nat}(hf:f<c.fr.length) : 0<=c.to.getD f 0/\c.to.getD f 0<c.aL.length:=by
 have:=gw hs.yD (i:=f) (by have:=hs.to;omega);have:=hs.aL;omega
theorem ai.Shape.oU(hs:c.Shape){x:Int}(h0 : 0<=x)(h1:x<c.aL.length) : 0<=c.fQ x/\c.fQ x<c.fr.length:=hs.toPre.idx (x:=x.toNat) (by omega)
theorem ai.Shape.xP(hs:c.Shape){f:Int}(h0 : 0<=f)(h1:f<c.fr.length):(c.co.getD f.toNat []).length=c.fr.length:=hs.row f.toNat (by omega)
theorem ai.Shape.lA(hs:c.Shape){f g:Nat}(hf:f<c.fr.length)(hg:g<c.fr.length)(h:c.to.getD f 0=c.fr.getD g 0) : 0<=c.bE f g/\c.bE f g<c.fr.length/\c.fr.getD (c.bE f g).toNat 0=c.fr.getD f 0/\c.to.getD (c.bE f g).toNat 0=c.to.getD g 0:=by
 have hc:=hs.cells f g hf hg;unfold ai.gm at hc;rw[if_neg (by simp only[h,bne_self_eq_false];decide)] at hc;have e:c.cell f g=c.bE f g:=by simp[ai.cell,ai.bE]
 simp only[e,Bool.and_eq_true,decide_eq_true_eq,beq_iff_eq] at hc;exact⟨hc.1.1.1,hc.1.1.2,hc.1.2,hc.2⟩
theorem ai.Shape.BE(hs:c.Shape){f g:Nat}(hf:f<c.fr.length)(hg:g<c.fr.length)(h:c.to.getD f 0≠c.fr.getD g 0):c.bE f g=-1:=by
 have hc:=hs.cells f g hf hg;unfold ai.gm at hc;rw[if_pos (by simpa using h)] at hc;have e:c.cell f g=c.bE f g:=by simp[ai.cell,ai.bE]
 rw[e] at hc;simpa using hc
end
def fd(r:Int×Int×Int×Int):D:=.af [.int .i64 r.1,.int .i64 r.2.1,.int .i64 r.2.2.1,.int .i64 r.2.2.2]
def ai.jb(c:ai):Bool:=c.gC&&c.kg.1 == 0
def z7:List Nat:=[0,2,1,3,4,5,6,7]
def GV:Sl:=ae Go.Proofs.Tryz.types Go.Proofs.Tryz.f128 z7 []
theorem OA:aD Go.Proofs.Tryz.prog Go.Proofs.Tryz.f128 z7 GV 1=true:=by decide +kernel
theorem Rz(c:ai):al Go.Proofs.Tryz.prog 128 [.v c.d] (.bool c.gC):=by
 refine aA Go.Proofs.Tryz.func128 OA ?_;unfold GV ae z7;simp only[go_sem];refine ak (xK _ _ _) rfl (.inl rfl) ?_;simp only[go_sem];refine⟨fun h=>by simpa using h,?_⟩;refine bO (fun h=>Fg c.fr c.fr.length c.ob) rfl (fun h=>by simpa using h) (.inl rfl) ?_;simp only[go_sem];refine⟨fun h=>by simp_all,?_⟩;refine bO (fun h=>Fg c.to c.fr.length c.ob) rfl (fun h=>by simpa using h) (.inl rfl) ?_;simp only[go_sem];refine⟨fun h=>by simp_all,fun h=>by simp_all,fun h=>?_,fun h=>?_⟩
 ·symm;refine ai.sT fun hp=>?_
  have h1:bm c.ob 0 8=true:=by simp[bm,hp.pj,hp.wB]
  have h2:=hp.fr;simp[h1,hp.vA,hp.to,hp.yD,hp.co] at h;omega
 refine bO (fun h=>pG c.fr.length c.aL) rfl (fun h=>by simpa using h) (.inl rfl) ?_;simp only[go_sem];refine⟨fun h=>by simp_all,fun h2=>?_,fun h2=>?_⟩
 ·symm;refine ai.sT fun hp=>?_
  simp[hp.aL,hp.vG] at h2
 have hp:c.Pre:=by
  simp only[Bool.or_eq_false_iff,Bool.not_eq_false',bne_eq_false_iff_eq,decide_eq_false_iff_not,bm,Bool.and_eq_true,decide_eq_true_eq,beq_iff_eq] at h h2;obtain⟨⟨⟨⟨h1,h3⟩,h4⟩,h5⟩,h6⟩:=h;exact⟨h1.1,h1.2,by omega,h4.2,by omega,h5.2,by omega,h2.1,h2.2⟩
 clear h h2;refine aI [] (fun(x:Nat)=>[(4,.int .i64 x)]) (fun x=>x<=c.aL.length/\ca x c.iY=true) (fun x=>c.aL.length-x) 0 rfl ⟨Nat.zero_le _,rfl⟩ rfl ?_;rintro x ⟨hx,ha⟩;simp only[go_sem];have hob:=hp.aL;refine⟨fun h=>?_,fun h=>?_⟩
 ·have hx':x<c.aL.length:=by omega
  have hid:=hp.idx hx';have hto:=hp.to;refine⟨hx',hid,fun h=>⟨h,hx'⟩,fun h=>⟨h,hid.1,by omega⟩,fun h=>by simpa using h,fun h=>?_,fun h=>?_⟩
  ·exact(ai.Dw hx' (by simp only[ai.iY];rw[Bool.or_eq_true,bne_iff_ne,bne_iff_ne] at h;rw[Bool.and_eq_false_iff,beq_eq_false_iff_ne,beq_eq_false_iff_ne];exact h)).symm
  ·exact⟨x+1,⟨by omega,jx ha (by simpa[ai.iY] using h)⟩,by omega,by rw[aH hx' (by have:=hp.iw;simp only[maxLen];omega)]⟩
 have hx':x=c.aL.length:=by omega
 subst hx';have hm:=hp.fr;have hco:=hp.co;have hto:=hp.to;refine aI [6,7] (fun(f:Nat)=>[(5,.int .i64 f)]) (fun f=>f<=c.fr.length/\ca f c.jm=true) (fun f=>c.fr.length-f) 0 rfl ⟨Nat.zero_le _,rfl⟩ rfl ?_;rintro f ⟨hf,hb⟩;simp only[go_sem];refine⟨fun hfl=>⟨by omega,fun h2=>?_,fun h2=>?_⟩,fun h=>?_⟩
 ·exact(ai.wy hfl (by simp only[ai.jm];rw[Bool.and_eq_false_iff];left;simpa using h2)).symm
 ·refine aI [7] (fun(g:Nat)=>[(6,.int .i64 g)]) (fun g=>g<=c.fr.length/\ca g (c.gm f)=true) (fun g=>c.fr.length-g) 0 rfl ⟨Nat.zero_le _,rfl⟩ rfl ?_
  rintro g ⟨hg,hc⟩;simp only[go_sem]
  have hrow:(c.co.getD f []).length=c.fr.length:=by
   rw[bne_eq_false_iff_eq] at h2;omega
  have hcb:c.gm f g=if c.to.getD f 0 != c.fr.getD g 0 then(c.co.getD f []).getD g 0 == -1
   else decide (0<=(c.co.getD f []).getD g 0)&&decide ((c.co.getD f []).getD g 0<c.fr.length)&&(c.fr.getD ((c.co.getD f []).getD g 0).toNat 0 == c.fr.getD f 0)&&(c.to.getD ((c.co.getD f []).getD g 0).toNat 0 == c.to.getD g 0):=rfl
  generalize(c.co.getD f []).getD g 0=h at hcb;refine⟨fun hgl=>?_,fun hgl=>?_⟩
  ·have step:c.gm f g=true->∃x',(x'<=c.fr.length/\ca x' (c.gm f)=true)/\c.fr.length-x'<c.fr.length-g/\IntKind.i64.wrap ((g:Int)+1)=(x':Int):=fun hh=>⟨g+1,⟨by omega,jx hc hh⟩,by omega,aH hgl (by simp only[maxLen];omega)⟩
   refine⟨by omega,by omega,by omega,hgl,fun h3=>⟨fun h4=>?_,fun h4=>?_⟩,fun h3=>⟨fun h4=>by simp_all,fun h4=>⟨h4,by simp at h4;omega⟩,fun h4=>⟨h4,by omega⟩,fun h4=>by simpa only[<-Bool.not_or,Bool.not_eq_true'] using h4,fun h4=>⟨h4,by simp at h4;omega⟩,fun h4=>⟨h4,by omega⟩,fun h4=>by simpa only[<-Bool.not_or,Bool.not_eq_true'] using h4,fun h4=>?_,fun h4=>?_⟩⟩
   ·exact(ai.sS hfl hgl (by rw[hcb,if_pos h3];simpa using h4)).symm
   ·obtain⟨x',e1,e2,e3⟩:=step (by rw[hcb,if_pos h3];simpa using h4)
    exact⟨x',e1,e2,by rw[e3]⟩
   ·refine(ai.sS hfl hgl ?_).symm
    rw[hcb,if_neg (by rw[h3];decide)];simp only[Bool.or_eq_true,decide_eq_true_eq,bne_iff_ne] at h4;simp only[Bool.and_eq_false_iff,decide_eq_false_iff_not,beq_eq_false_iff_ne];omega
   ·obtain⟨x',e1,e2,e3⟩:=step (by
     rw[hcb,if_neg (by rw[h3];decide)];simp only[Bool.or_eq_false_iff,decide_eq_false_iff_not,bne_eq_false_iff_eq] at h4;simp only[Bool.and_eq_true,decide_eq_true_eq,beq_iff_eq]
     omega)
    exact⟨x',e1,e2,by rw[e3]⟩
  ·have:g=c.fr.length:=by omega
   subst this;refine⟨f+1,⟨by omega,jx hb (by simp only[ai.jm];rw[hc,hrow];simp)⟩,by omega,by rw[aH hfl (by simp only[maxLen];omega)]⟩
 ·have:f=c.fr.length:=by omega
  subst this;exact(ai.CE hp ha hb).symm
def Aj:List Nat:=[0,2,3,4,5,1,6,7,8,9,10]
def Ha:Sl:=ae Go.Proofs.Tryz.types Go.Proofs.Tryz.f129 Aj []
theorem OL:aD Go.Proofs.Tryz.prog Go.Proofs.Tryz.f129 Aj Ha 1=true:=by decide +kernel
theorem RG(c:ai)(hs:c.Shape):al Go.Proofs.Tryz.prog 129 [.v c.d] (fd c.kg):=by
 have hm:=hs.fr;have hml:c.fr.length<=maxLen:=by simp only[maxLen];omega
 have hto:=hs.to;have hco:=hs.co;have cI:∀f g:Int,(c.co.getD f.toNat []).getD g.toNat 0=c.bE f g:=fun _ _=>rfl
 have iI:∀x:Int,c.aL.getD x.toNat 0=c.fQ x:=fun _=>rfl
 refine aA Go.Proofs.Tryz.func129 OL ?_;unfold Ha ae Aj;simp only[go_sem];refine aI [] (fun(f:Nat)=>[(7,.int .i64 f)]) (fun f=>f<=c.fr.length/\∀j,j<f->c.mY j=false) (fun f=>c.fr.length-f) 0 rfl ⟨Nat.zero_le _,fun j hj=>by omega⟩ rfl ?_;rintro f ⟨hf,ha⟩;simp only[go_sem];refine⟨fun h=>?_,fun h=>?_⟩
 ·have e1:=hs.Cg h
  have e2:=hs.oU e1.1 e1.2;have e3:=hs.xP e2.1 e2.2;have e4:=hs.HV h;have e5:=hs.oU e4.1 e4.2;have e6:=hs.row f h;simp only[ai.fQ] at e2 e3 e5;refine⟨h,e1,⟨e2.1,by omega⟩,by omega,fun h2=>⟨h2,by omega⟩,fun h2=>⟨h2,by omega⟩,fun h2=>⟨h2,e4⟩,fun h2=>⟨h2,e5.1,by omega⟩,fun h2=>by simpa only[Bool.not_eq_true'] using h2,fun h2=>?_,fun h2=>?_⟩
  ·rw[ai.B8 ha h h2];rfl
  ·exact⟨f+1,⟨by omega,fun j hj=>by by_cases hjf:j<f;exact ha j hjf;rw[show j=f by omega];exact h2⟩,by omega,by rw[aH h hml]⟩
 have:f=c.fr.length:=by omega
 subst this;refine aI [9,10] (fun(f:Nat)=>[(8,.int .i64 f)]) (fun f=>f<=c.fr.length/\∀f' g' h',f'<f->g'<c.fr.length->h'<c.fr.length->c.dy f' g' h'=false) (fun f=>c.fr.length-f) 0 rfl ⟨Nat.zero_le _,fun _ _ _ hj=>by omega⟩ rfl ?_;rintro f ⟨hf,hb⟩;simp only[go_sem];refine⟨fun hfl=>?_,fun h=>?_⟩
 ·refine aI [10] (fun(g:Nat)=>[(9,.int .i64 g)]) (fun g=>g<=c.fr.length/\∀g' h',g'<g->h'<c.fr.length->c.dy f g' h'=false) (fun g=>c.fr.length-g) 0 rfl ⟨Nat.zero_le _,fun _ _ hj=>by omega⟩ rfl ?_
  rintro g ⟨hg,hc⟩;simp only[go_sem];refine⟨fun hgl=>⟨by omega,hgl,fun h2=>?_,fun h2=>?_⟩,fun h=>?_⟩
  ·refine⟨g+1,⟨by omega,fun g' h' hg' hh'=>lQ (P:=fun g'=>c.dy f g' h'=false) (fun j hj=>hc j h' hj hh') ?_ g' hg'⟩,by omega,by rw[aH hgl hml]⟩
   rw[bne_iff_ne] at h2;exact ai.A8 h2
  ·rw[bne_eq_false_iff_eq] at h2
   have e1:=hs.lA hfl hgl h2;refine aI [] (fun(h:Nat)=>[(10,.int .i64 h)]) (fun h=>h<=c.fr.length/\∀h',h'<h->c.dy f g h'=false) (fun h=>c.fr.length-h) 0 rfl ⟨Nat.zero_le _,fun _ hj=>by omega⟩ rfl ?_;rintro h ⟨hh,hd⟩;simp only[go_sem];have e3:=hs.xP e1.1 e1.2.1;have e4:=hs.row f hfl;have e5:=hs.row g hgl;have hasf:=fun h=>ai.A9 (h:=h) h2
   refine⟨fun hhl=>?_,fun h3=>?_⟩
   ·have e6:=hs.lA hgl hhl
    refine⟨by omega,hhl,fun h3=>⟨h3,by omega⟩,fun h3=>⟨h3,by omega⟩,fun h3=>⟨h3,e1.1,by rw[hco];exact e1.2.1⟩,fun h3=>⟨h3,Nat.lt_of_lt_of_eq hhl e3.symm⟩,fun h3=>⟨h3,by omega⟩,fun h3=>⟨h3,by omega⟩,fun h3=>⟨h3,by omega⟩,
     fun h3=>⟨h3,(e6 h3).1,by rw[e4];exact(e6 h3).2.1⟩,fun h3=>?_,fun h3=>?_⟩
    ·rw[ai.B7 ha hfl hgl hhl (by rw[hasf];exact h3) hd hc hb];rfl
    ·exact⟨h+1,⟨by omega,lQ hd (by rw[hasf];exact h3)⟩,by omega,by rw[aH hhl hml]⟩
   ·have:h=c.fr.length:=by omega
    subst this;exact⟨g+1,⟨by omega,fun g' h' hg' hh'=>lQ (P:=fun g'=>c.dy f g' h'=false) (fun j hj=>hc j h' hj hh') (hd h' hh') g' hg'⟩,by omega,by rw[aH hgl hml]⟩
  ·refine⟨f+1,⟨by omega,fun f' g' h' hf' hg' hh'=>lQ (P:=fun f'=>c.dy f' g' h'=false) (fun j hj=>hb j g' h' hj hg' hh') (hc g' h' (by omega) hh') f' hf'⟩,by omega,by rw[aH hfl hml]⟩
 ·have:f=c.fr.length:=by omega
  subst this;rw[ai.B9 ha hb];rfl
def Ak:List Nat:=[0,2,1,3]
def Hb:Sl:=ae Go.Proofs.Tryz.types Go.Proofs.Tryz.f103 Ak []
theorem OM:aD Go.Proofs.Tryz.prog Go.Proofs.Tryz.f103 Ak Hb 1=true:=by decide +kernel
theorem RH(c:ai):al Go.Proofs.Tryz.prog 103 [.v c.d] (.bool c.jb):=by
 refine aA Go.Proofs.Tryz.func103 OM ?_;unfold Hb ae Ak;simp only[go_sem];refine ak (Rz c) rfl (.inl rfl) ?_;simp only[go_sem];refine⟨fun h=>?_,fun h=>?_⟩
 ·unfold ai.jb;rw[Bool.not_eq_true'] at h;rw[h];rfl
 rw[Bool.not_eq_false'] at h;refine ak (RG c (ai.tL.1 h)) rfl (.inl rfl) ?_;simp only[fd];simp only[go_sem];unfold ai.jb;rw[h];rfl
def Al:List Nat:=[0,2,1]
def Hc:Sl:=ae Go.Proofs.Tryz.types Go.Proofs.Tryz.f104 Al []
theorem ON:aD Go.Proofs.Tryz.prog Go.Proofs.Tryz.f104 Al Hc 1=true:=by decide +kernel
theorem Fh(a:ai)(hs:ai.cost a<=1048576):al Go.Proofs.Tryz.prog 104 [.v (ai.d a)] (ai.d a):=by
 unfold ai.cost at hs;refine aA Go.Proofs.Tryz.func104 ON ?_;unfold Hc ae Al;simp only[go_sem];refine ak (jV a.fr (by omega)) rfl (.inl (bL _)) ?_;simp only[go_sem];refine ak (jV a.to (by omega)) rfl (.inl (bL _)) ?_;simp only[go_sem];refine ak (jV a.aL (by omega)) rfl (.inl (bL _)) ?_;simp only[go_sem];refine ak (RF a.co (by omega)) rfl (.inl (qI _)) ?_;simp only[go_sem]
 all_goals rfl
def ix(l:List Int)(x:Int):Int:=if l.findIdx (·== x)<l.length then((l.findIdx (·== x):Nat):Int) else -1
def Ab:List Nat:=[0,1,4,5]
def GY:Sl:=ae Go.Proofs.Tryz.types Go.Proofs.Tryz.f197 Ab []
theorem OD:aD Go.Proofs.Tryz.prog Go.Proofs.Tryz.f197 Ab GY 2=true:=by decide +kernel
theorem RC(l:List Int)(x:Int)(hl:l.length<=1048576):al Go.Proofs.Tryz.prog 197 [.v (ints l),.v (.int .i64 x)] (.int .i64 (ix l x)):=by
 refine aA Go.Proofs.Tryz.func197 OD ?_;unfold GY ae Ab;simp only[go_sem];refine aI [] (fun i:Nat=>[(3,.int .i64 i)]) (fun i=>i<=l.findIdx (·== x)) (fun i=>l.length-i) 0 (by simp only[go_sem];rfl) (Nat.zero_le _) rfl ?_;intro i hi;have hfl:=List.findIdx_le_length (p:=(·== x)) (xs:=l);simp only[go_sem];refine⟨fun h1=>⟨h1,fun h2=>?_,fun h2=>⟨i+1,?_,by omega,by rw[aH h1 (by simp only[maxLen];omega)]⟩⟩,fun h1=>?_⟩
 ·have:l.findIdx (·== x)<=i:=by
   apply Nat.le_of_not_lt;intro hh;have:=List.not_of_lt_findIdx hh;rw[<-aX (d:=0) h1,h2] at this;simp at this
  have e:l.findIdx (·== x)=i:=by omega
  unfold ix;rw[e,if_pos h1]
 ·by_cases hlt:i<l.findIdx (·== x)
  ·omega
  ·have e:l.findIdx (·== x)=i:=by omega
   have:=List.findIdx_getElem (w:=show l.findIdx (·== x)<l.length by omega);simp only[e] at this;rw[<-aX (d:=0) h1,h2] at this;cases this
 ·unfold ix
  rw[if_neg (by omega)]
def Am:List Nat:=[0,1,2,6,3]
def Hd:Sl:=ae Go.Proofs.Tryz.types Go.Proofs.Tryz.f110 Am []
theorem OO:aD Go.Proofs.Tryz.prog Go.Proofs.Tryz.f110 Am Hd 3=true:=by decide +kernel
theorem RI(c:ai)(f g:Int)(h0 : 0<=f)(h1:f<c.co.length)(h2 : 0<=g)(h3:g<(c.co.getD f.toNat []).length):al Go.Proofs.Tryz.prog 110 [.v c.d,.v (.int .i64 f),.v (.int .i64 g)] (.int .i64 (c.bE f g)):=by
 refine aA Go.Proofs.Tryz.func110 OO ?_;unfold Hd ae Am;simp only[go_sem];exact⟨⟨h0,h1⟩,⟨h2,h3⟩,rfl⟩
def lexB:List Int->List Int->Bool
 | [],[]=>false
 | [],_::_=>true
 | _::_,[]=>false
 | a::l,b::r=>if a=b then lexB l r else decide (a<b)
theorem K8{a b:List Int}{i:Nat}(ha:i<a.length)(hb:i<b.length)(h:a.getD i 0=b.getD i 0):lexB (a.drop i) (b.drop i)=lexB (a.drop (i+1)) (b.drop (i+1)):=by
 rw[aX ha,aX hb] at h;rw[List.drop_eq_getElem_cons ha,List.drop_eq_getElem_cons hb];simp only[lexB,h,if_true]
def Ad:List Nat:=[0,1,4,5]
def G4:Sl:=ae Go.Proofs.Tryz.types Go.Proofs.Tryz.f161 Ad []
theorem OF:aD Go.Proofs.Tryz.prog Go.Proofs.Tryz.f161 Ad G4 2=true:=by decide +kernel
theorem RE(a b:List Int)(hl:a.length<=1048576):al Go.Proofs.Tryz.prog 161 [.v (ints a),.v (ints b)] (.bool (lexB a b)):=by
 refine aA Go.Proofs.Tryz.func161 OF ?_;unfold G4 ae Ad;simp only[go_sem];refine aI [] (fun i:Nat=>[(3,.int .i64 i)]) (fun i=>i<=a.length/\i<=b.length/\lexB a b=lexB (a.drop i) (b.drop i)) (fun i=>a.length-i) 0 (by simp only[go_sem];rfl) ⟨Nat.zero_le _,Nat.zero_le _,rfl⟩ rfl ?_;rintro i ⟨hi,hi2,hs⟩;simp only[go_sem];refine⟨fun h=>?_,fun h=>?_⟩
 ·simp only[Bool.and_eq_true,decide_eq_true_eq] at h
  refine⟨h.1,h.2,fun h2=>⟨h.1,h.2,?_⟩,fun h2=>⟨i+1,⟨h.1,h.2,?_⟩,by omega,by rw[aH h.1 (by simp only[maxLen];omega)]⟩⟩
  ·have h3:a.getD i 0≠b.getD i 0:=by simpa using h2
   rw[hs,List.drop_eq_getElem_cons h.1,List.drop_eq_getElem_cons h.2];rw[aX h.1,aX h.2] at h3|-
   simp only[lexB,if_neg h3]
  ·have h3:a.getD i 0=b.getD i 0:=by simpa using h2
   rw[hs,K8 h.1 h.2 h3]
 ·rw[hs]
  by_cases h1:i<a.length
  ·have h2:¬i<b.length:=by simp only[h1,decide_true,Bool.true_and,decide_eq_false_iff_not] at h;exact h
   rw[List.drop_eq_getElem_cons h1,List.drop_eq_nil_of_le (show b.length<=i by omega)];simp only[lexB,decide_eq_false_iff_not];omega
  ·rw[List.drop_eq_nil_of_le (show a.length<=i by omega)]
   by_cases h2:i<b.length
   ·rw[List.drop_eq_getElem_cons h2];simp only[lexB,decide_eq_true_eq];omega
   ·rw[List.drop_eq_nil_of_le (show b.length<=i by omega)];simp only[lexB,decide_eq_false_iff_not];omega
def Ah:List Nat:=[0,1,4,5]
def G8:Sl:=ae Go.Proofs.Tryz.types Go.Proofs.Tryz.f83 Ah []
theorem OJ:aD Go.Proofs.Tryz.prog Go.Proofs.Tryz.f83 Ah G8 2=true:=by decide +kernel
theorem xL(a b:List Int)(hl:a.length<=1048576):al Go.Proofs.Tryz.prog 83 [.v (ints a),.v (ints b)] (.bool (a == b)):=by
 refine aA Go.Proofs.Tryz.func83 OJ ?_;unfold G8 ae Ah;simp only[go_sem];refine⟨fun h=>?_,fun h=>?_⟩
 ·have:a≠b:=fun e=>by subst e;simp at h
  simpa using this
 have hab:a.length=b.length:=by simp at h;omega
 refine aI [] (fun i:Nat=>[(3,.int .i64 i)]) (fun i=>i<=a.length/\∀j,j<i->a.getD j 0=b.getD j 0) (fun i=>a.length-i) 0 (by simp only[go_sem];rfl) ⟨Nat.zero_le _,fun j hj=>by omega⟩ rfl ?_;rintro i ⟨hi,hs⟩;simp only[go_sem];refine⟨fun h1=>⟨h1,by omega,fun h2=>?_,fun h2=>⟨i+1,⟨by omega,fun j hj=>?_⟩,by omega,by rw[aH h1 (by simp only[maxLen];omega)]⟩⟩,fun h1=>?_⟩
 ·have:a≠b:=fun e=>by subst e;simp at h2
  simpa using this
 ·by_cases hji:j=i
  ·subst hji;simpa using h2
  ·exact hs j (by omega)
 ·have:a=b:=by
   apply List.ext_getElem hab;intro j h3 h4;have:=hs j (by omega)
   rwa [aX h3,aX h4] at this
  simpa using this
end Go.D3
namespace Go.D3
open Go
def dc(l:List Int)(a b:Int):List Int:=l.map fun x=>if x=b then a else x
def b7(l:List Int)(P:List (List Int)):List Int:=P.foldl (fun l p=>dc l (l.getD (p.getD 0 0).toNat 0) (l.getD (p.getD 1 0).toNat 0)) l
theorem KO{l:List Int}{P:List (List Int)}{p:List Int}:b7 l (P++[p])=dc (b7 l P) ((b7 l P).getD (p.getD 0 0).toNat 0) ((b7 l P).getD (p.getD 1 0).toNat 0):=by
 unfold b7;rw[List.foldl_append];rfl
theorem gA{l:List Int}{a b:Int}:(dc l a b).length=l.length:=List.length_map _
theorem qx{l:List Int}{P:List (List Int)}:(b7 l P).length=l.length:=by
 induction P generalizing l with
 | nil=>rfl
 | cons p P ih=>show(b7 _ P).length=_;rw[ih,gA]
theorem pz{l:List Int}{a b:Int}{i:Nat}(h:i<l.length):(dc l a b).getD i 0=if l.getD i 0=b then a else l.getD i 0:=by
 rw[aX (by rw[gA];exact h),aX h];unfold dc;rw[List.getElem_map]
theorem Qi{l:List Int}{a b:Int}{i j:Nat}(hi:i<l.length)(hj:j<l.length)(h:l.getD i 0=l.getD j 0):(dc l a b).getD i 0=(dc l a b).getD j 0:=by
 rw[pz hi,pz hj,h]
theorem KM{P:List (List Int)}:∀{l:List Int}{i j:Nat},i<l.length->j<l.length->l.getD i 0=l.getD j 0->(b7 l P).getD i 0=(b7 l P).getD j 0:=by
 induction P with
 | nil=>exact fun _ _ h=>h
 | cons p P ih =>
  intro l i j hi hj h;show(b7 (dc _ _ _) P).getD i 0=(b7 (dc _ _ _) P).getD j 0;exact ih (by rw[gA];exact hi) (by rw[gA];exact hj) (Qi hi hj h)
theorem KN{P:List (List Int)}:∀{l:List Int}{p:List Int}{i j:Nat},p∈P->p.getD 0 0=i->p.getD 1 0=j->i<l.length->j<l.length->(b7 l P).getD i 0=(b7 l P).getD j 0:=by
 induction P with
 | nil=>intro l p i j h;cases h
 | cons q P ih =>
  intro l p i j hp h0 h1 hi hj;show(b7 (dc _ _ _) P).getD i 0=(b7 (dc _ _ _) P).getD j 0;rcases List.mem_cons.1 hp with rfl | hp
  ·refine KM (by rw[gA];exact hi) (by rw[gA];exact hj) ?_
   rw[pz hi,pz hj,h0,h1,Int.toNat_natCast,Int.toNat_natCast,if_pos rfl];split<;>rfl
  ·exact ih hp h0 h1 (by rw[gA];exact hi) (by rw[gA];exact hj)
theorem Du:∀{A B:List Int},A.Nodup->(∀x∈A,x∈B)->A.length<=B.length
 | [],_,_,_=>Nat.zero_le _
 | x::A,B,h,hs=>by
  rw[List.nodup_cons] at h;have hx:=hs x List.mem_cons_self;have:=Du (A:=A) (B:=B.erase x) h.2 fun y hy=>(List.mem_erase_of_ne (show y≠x from fun e=>h.1 (by rw[<-e];exact hy))).2 (hs y (List.mem_cons_of_mem _ hy))
  rw[List.length_erase_of_mem hx] at this;have:=List.length_pos_of_mem hx;rw[List.length_cons];omega
end Go.D3
namespace Go.D3
open Go
theorem Qj{n:Nat}{β:Type}{φ:Nat->β}{l:List Int}{a b:Nat}(hl:l.length=n)(h:∀i,i<n->∃m:Nat,m<n/\l.getD i 0=m/\φ m=φ i)(ha:a<n)(hb:b<n)(hab:φ a=φ b) :
  ∀i,i<n->∃m:Nat,m<n/\(dc l (l.getD a 0) (l.getD b 0)).getD i 0=m/\φ m=φ i:=fun i hi=>by
 rw[pz (by omega)];obtain⟨m,m1,m2,m3⟩:=h i hi;obtain⟨x,x1,x2,x3⟩:=h a ha;obtain⟨y,y1,y2,y3⟩:=h b hb;split
 ·rename_i e
  refine⟨x,x1,x2,?_⟩;have:m=y:=by omega
  rw[x3,hab,<-y3,<-this,m3]
 ·exact⟨m,m1,m2,m3⟩
theorem vT{n:Nat}{β:Type}{φ:Nat->β}:∀{P:List (List Int)}{l:List Int},l.length=n->(∀i,i<n->∃m:Nat,m<n/\l.getD i 0=m/\φ m=φ i) ->
  (∀p∈P,∃a b:Nat,a<n/\b<n/\p.getD 0 0=a/\p.getD 1 0=b/\φ a=φ b)->∀i,i<n->∃m:Nat,m<n/\(b7 l P).getD i 0=m/\φ m=φ i
 | [],l,hl,h,_=>h
 | p::P,l,hl,h,hP=>by
  obtain⟨a,b,ha,hb,h0,h1,hab⟩:=hP p List.mem_cons_self;show ∀i,i<n->∃m:Nat,m<n/\(b7 (dc l _ _) P).getD i 0=m/\φ m=φ i;rw[h0,h1,Int.toNat_natCast,Int.toNat_natCast];exact vT (by rw[gA,hl]) (Qj hl h ha hb hab) fun q hq=>hP q (List.mem_cons_of_mem _ hq)
structure fu(L:List Int)(i:Nat)(seen out:List Int):Prop where
 nd:seen.Nodup
 len:out.length=i
 o:∀j,j<i->∃k:Nat,k<seen.length/\out.getD j 0=k/\seen.getD k 0=L.getD j 0
 s:∀k:Nat,k<seen.length->∃j,j<i/\out.getD j 0=k
 f:∀j (m:Nat),j<i->(∀q,q<j->out.getD q 0<m)->out.getD j 0<=m
theorem fI{α:Type}{l:List α}{x d:α}{j:Nat}(h:j<=l.length):(l++[x]).getD j d=if j=l.length then x else l.getD j d:=by
 rw[List.getD_eq_getElem?_getD,List.getD_eq_getElem?_getD];by_cases e:j=l.length
 ·rw[if_pos e,List.getElem?_append_right (by omega),show j-l.length=0 by omega];rfl
 ·rw[if_neg e,List.getElem?_append_left (by omega)]
theorem fu.zero{L:List Int}:fu L 0 [] []:=⟨List.nodup_nil,rfl,fun _ hj=>absurd hj (Nat.not_lt_zero _),fun _ hk=>absurd hk (Nat.not_lt_zero _),fun _ _ hj=>absurd hj (Nat.not_lt_zero _)⟩
theorem fu.le{L:List Int}{i:Nat}{seen out:List Int}(h:fu L i seen out){m:Nat}(hm:∀q,q<i->out.getD q 0<m):seen.length<=m:=by
 cases hl:seen.length with
 | zero=>omega
 | succ k =>
  obtain⟨j,h1,h2⟩:=h.s k (by omega);have:=hm j h1;omega
theorem fu.old{L:List Int}{i:Nat}{seen out:List Int}(h:fu L i seen out){k:Nat}(hk:k<seen.length)(hx:seen.getD k 0=L.getD i 0):fu L (i+1) seen (out++[(k:Int)]):=by
 have hl:=h.len;have hlt:∀{j},j<i->(out++[(k:Int)]).getD j 0=out.getD j 0:=fun hj=>by rw[fI (by omega),if_neg (by omega)]
 have he:(out++[(k:Int)]).getD i 0=k:=by rw[fI (by omega),if_pos hl.symm]
 refine⟨h.nd,by rw[List.length_append,hl];rfl,fun j hj=>?_,fun k' hk'=>?_,fun j m hj hm=>?_⟩
 ·by_cases hji:j<i
  ·rw[hlt hji];exact h.o j hji
  ·rw[show j=i by omega,he];exact⟨k,hk,rfl,hx⟩
 ·obtain⟨j,h1,h2⟩:=h.s k' hk'
  exact⟨j,by omega,by rw[hlt h1,h2]⟩
 ·by_cases hji:j<i
  ·rw[hlt hji]
   exact h.f j m hji fun q hq=>by have:=hm q hq;rwa [hlt (by omega)] at this
  ·obtain rfl:j=i:=by omega
   rw[he];have:=h.le (m:=m) fun q hq=>by have:=hm q hq;rwa [hlt hq] at this
   omega
theorem fu.new{L:List Int}{i:Nat}{seen out:List Int}(h:fu L i seen out)(hx:L.getD i 0 ∉ seen):fu L (i+1) (seen++[L.getD i 0]) (out++[(seen.length:Int)]):=by
 have hl:=h.len;have hlt:∀{j},j<i->(out++[(seen.length:Int)]).getD j 0=out.getD j 0:=fun hj=>by rw[fI (by omega),if_neg (by omega)]
 have he:(out++[(seen.length:Int)]).getD i 0=seen.length:=by rw[fI (by omega),if_pos hl.symm]
 refine⟨?_,by rw[List.length_append,hl];rfl,fun j hj=>?_,fun k' hk'=>?_,fun j m hj hm=>?_⟩
 ·rw[List.nodup_append]
  refine⟨h.nd,by simp,fun a ha b hb=>?_⟩;rw[List.mem_singleton] at hb;rintro rfl;exact hx (hb▸ha)
 ·by_cases hji:j<i
  ·rw[hlt hji]
   obtain⟨k,k1,k2,k3⟩:=h.o j hji;exact⟨k,by rw[List.length_append];omega,k2,by rw[fI (by omega),if_neg (by omega),k3]⟩
  ·rw[show j=i by omega,he]
   exact⟨seen.length,by rw[List.length_append];exact Nat.lt_succ_self _,rfl,by rw[fI (Nat.le_refl _),if_pos rfl]⟩
 ·rw[List.length_append,List.length_singleton] at hk'
  by_cases hk:k'<seen.length
  ·obtain⟨j,h1,h2⟩:=h.s k' hk
   exact⟨j,by omega,by rw[hlt h1,h2]⟩
  ·exact⟨i,by omega,by rw[he];omega⟩
 ·by_cases hji:j<i
  ·rw[hlt hji]
   exact h.f j m hji fun q hq=>by have:=hm q hq;rwa [hlt (by omega)] at this
  ·obtain rfl:j=i:=by omega
   rw[he];have:=h.le (m:=m) fun q hq=>by have:=hm q hq;rwa [hlt hq] at this
   omega
def iR(p:List Int×List Int)(x:Int):List Int×List Int:=if ix p.1 x<0 then(p.1++[x],p.2++[(p.1.length:Int)]) else(p.1,p.2++[ix p.1 x])
def dL(l:List Int):List Int×List Int:=l.foldl iR ([],[])
theorem uU{l:List Int}{x:Int}:dL (l++[x])=iR (dL l) x:=by unfold dL;rw[List.foldl_append];rfl
def dK(l:List Int):List Int:=(dL l).2
theorem Ku{l:List Int}{x:Int}(h:¬ix l x<0):∃k:Nat,ix l x=k/\k<l.length/\l.getD k 0=x:=by
 unfold ix at h|-
 by_cases hl:l.findIdx (·== x)<l.length
 ·refine⟨l.findIdx (·== x),by rw[if_pos hl],hl,?_⟩
  have:=List.findIdx_getElem (w:=hl);rw[aX hl];simpa using this
 ·rw[if_neg hl] at h;omega
theorem Kt{l:List Int}{x:Int}(h:ix l x<0):x ∉ l:=fun hm=>by
 unfold ix at h;rw[if_pos (List.findIdx_lt_length_of_exists ⟨x,hm,by simp⟩)] at h;omega
theorem mN{L:List Int}:∀i,i<=L.length->fu L i (dL (L.take i)).1 (dL (L.take i)).2
 | 0,_=>fu.zero
 | i+1,h=>by
  have ih:=mN (L:=L) i (by omega);rw[b9 (show i<L.length by omega) 0,uU];unfold iR;split
  ·rename_i hx;exact ih.new (Kt hx)
  ·rename_i hx
   obtain⟨k,h1,h2,h3⟩:=Ku hx;rw[h1];exact ih.old h2 h3
structure lj(L out:List Int):Prop where
 len:out.length=L.length
 ge:∀i,i<L.length->0<=out.getD i 0/\out.getD i 0<L.length
 f:∀i (m:Nat),i<L.length->(∀q,q<i->out.getD q 0<m)->out.getD i 0<=m
 eq:∀i j,i<L.length->j<L.length->(out.getD i 0=out.getD j 0↔L.getD i 0=L.getD j 0)
theorem Dt{l:List Int}(h:l.Nodup){a b:Nat}(ha:a<l.length)(hb:b<l.length)(e:l.getD a 0=l.getD b 0):a=b:=by
 rw[aX ha,aX hb] at e;exact(List.getElem_inj h).1 e
theorem fu.sle{L:List Int}{i:Nat}{seen out:List Int}(h:fu L i seen out)(hi:i<=L.length):seen.length<=i:=by
 have:seen.length<=(L.take i).length:=Du h.nd fun x hx=>by
  obtain⟨k,hk,rfl⟩:=List.getElem_of_mem hx;obtain⟨j,h3,h4⟩:=h.s k hk;obtain⟨k',h5,h6,h7⟩:=h.o j h3;rw[<-aX (d:=0) hk,show k=k' by omega,h7,aX (show j<L.length by omega)];exact List.mem_take_iff_getElem.2 ⟨j,by omega,rfl⟩
 rw[List.length_take] at this;omega
theorem fu.done{L seen out:List Int}(h:fu L L.length seen out):lj L out:=by
 refine⟨h.len,fun i hi=>?_,h.f,fun i j hi hj=>?_⟩
 ·obtain⟨k,h1,h2,_⟩:=h.o i hi
  refine⟨by omega,?_⟩;have:=h.sle (Nat.le_refl _);omega
 ·obtain⟨a,a1,a2,a3⟩:=h.o i hi
  obtain⟨b,b1,b2,b3⟩:=h.o j hj;rw[a2,b2,<-a3,<-b3];exact⟨fun e=>by rw[show a=b by omega],fun e=>by rw[Dt h.nd a1 b1 e]⟩
theorem uT{L:List Int}:lj L (dK L):=by
 have:=mN (L:=L) L.length (Nat.le_refl _);rw[List.take_length] at this;exact this.done
theorem DD{n:Nat}{β:Type}{φ:Nat->β}(i:Nat)(hi:i<n):∃m:Nat,m<n/\(((List.range n).map fun j:Nat=>(j:Int))).getD i 0=m/\φ m=φ i :=
 ⟨i,hi,by rw[List.getD_eq_getElem?_getD,List.getElem?_map,List.getElem?_range hi];rfl,rfl⟩
def br(n:Nat):List Int:=(List.range n).map fun j:Nat=>(j:Int)
theorem dF{n:Nat}:(br n).length=n:=by simp[br]
theorem lj.same{n:Nat}{P:List (List Int)}{out:List Int}(h:lj (b7 (br n) P) out){β:Type}(φ:Nat->β)(hP:∀p∈P,∃a b:Nat,a<n/\b<n/\p.getD 0 0=a/\p.getD 1 0=b/\φ a=φ b)
  {i j:Nat} (hi:i<n) (hj:j<n) (e:out.getD i 0=out.getD j 0):φ i=φ j:=by
 have hl:(b7 (br n) P).length=n:=by rw[qx,dF]
 rw[h.eq i j (by omega) (by omega)] at e;obtain⟨a,_,a1,a2⟩:=vT (φ:=φ) dF DD hP i hi;obtain⟨b,_,b1,b2⟩:=vT (φ:=φ) dF DD hP j hj;rw[<-a2,<-b2,show a=b by omega]
end Go.D3
namespace Go.D3
open Go
set_option maxRecDepth 100000
def jZ(mp:List (List Int))(l:List Int):List (List Int):=l.foldl (fun m (e:Int)=>m.set e.toNat (m.getD e.toNat []++[-1])) mp
theorem Iv{mp:List (List Int)}{l:List Int}{e:Int}:jZ mp (l++[e])=(jZ mp l).set e.toNat ((jZ mp l).getD e.toNat []++[-1]):=by
 unfold jZ;rw[List.foldl_append];rfl
theorem rJ{mp:List (List Int)}:∀{l:List Int},(jZ mp l).length=mp.length:=by
 intro l;induction l generalizing mp with
 | nil=>rfl
 | cons e l ih=>show(jZ _ l).length=_;rw[ih,List.length_set]
theorem so{α:Type}{l:List α}{i j:Nat}{x d:α}(h:i<l.length):(l.set i x).getD j d=if j=i then x else l.getD j d:=by
 rw[List.getD_eq_getElem?_getD,List.getElem?_set];by_cases hij:i=j
 ·subst hij;rw[if_pos rfl,if_pos h,if_pos rfl];rfl
 ·rw[if_neg hij,if_neg (Ne.symm hij),List.getD_eq_getElem?_getD]
theorem AQ{mp:List (List Int)}{fr:List Int}{x:Int}:∀{n:Nat},n<=mp.length->∀e:Nat,(jZ mp (po fr x n)).getD e []=if e<n/\fr.getD e 0=x then mp.getD e []++[-1] else mp.getD e []
 | 0,_,e=>by rw[if_neg (by omega)];rfl
 | n+1,hn,e=>by
  have ih:=fun e=>AQ (mp:=mp) (fr:=fr) (x:=x) (n:=n) (by omega) e
  rw[Pq];by_cases h:fr.getD n 0=x
  ·rw[if_pos h,Iv,Int.toNat_natCast,so (by rw[rJ];omega),ih n,ih e,if_neg (show ¬(n<n/\fr.getD n 0=x) from fun hh=>Nat.lt_irrefl _ hh.1)]
   by_cases he:e=n
   ·subst he;rw[if_pos rfl,if_pos ⟨by omega,h⟩]
   ·rw[if_neg he]
    by_cases hc:e<n/\fr.getD e 0=x
    ·rw[if_pos hc,if_pos ⟨by omega,hc.2⟩]
    ·rw[if_neg hc,if_neg (fun hh=>hc ⟨by omega,hh.2⟩)]
  ·rw[if_neg h,List.append_nil,ih e]
   by_cases hc:e<n/\fr.getD e 0=x
   ·rw[if_pos hc,if_pos ⟨by omega,hc.2⟩]
   ·rw[if_neg hc,if_neg]
    rintro⟨h1,h2⟩;by_cases he:e=n
    ·subst he;exact h h2
    ·exact hc ⟨by omega,h2⟩
structure ur(s:Sch)(d:bf):Prop where
 nd:(d.sz.length:Int)=s.nd
 mp:d.mp.length=s.fr.length
 my:∀i,i<d.sz.length->0<=d.sz.getD i 0/\d.sz.getD i 0<=16
 len:∀e,e<d.mp.length->((d.mp.getD e []).length:Int)=d.sz.getD (s.fr.getD e 0).toNat 0
 val:∀e i,e<d.mp.length->i<(d.mp.getD e []).length->-1<=(d.mp.getD e []).getD i 0/\(d.mp.getD e []).getD i 0<d.sz.getD (s.to.getD e 0).toNat 0
def bf.can(s:Sch)(d:bf)(c:bu):Bool :=
 c.okB&&(if c.kd=1 then bm c.fi 0 (s.nd-1)&&!(d.sz.getD c.fi.toNat 0 == 16)
  else bm c.fi 0 ((s.fr.length:Int)-1)&&bm c.se 0 (d.sz.getD (s.fr.getD c.fi.toNat 0).toNat 0-1)&&bm c.th 0 (d.sz.getD (s.to.getD c.fi.toNat 0).toNat 0-1))
def bf.app(s:Sch)(d:bf)(c:bu):bf :=
 if c.kd=1 then⟨d.sz.set c.fi.toNat (d.sz.getD c.fi.toNat 0+1),jZ d.mp (po s.fr c.fi s.fr.length)⟩
 else⟨d.sz,d.mp.set c.fi.toNat ((d.mp.getD c.fi.toNat []).set c.se.toNat c.th)⟩
structure gi(s:Sch):Prop where
 n0 : 0<=s.nd
 n8:s.nd<=8
 f8:s.fr.length<=8
 to:s.to.length=s.fr.length
 fr:cL s.nd s.fr=true
 yE:cL s.nd s.to=true
theorem ga{s:Sch}(h:s.fU=true):gi s:=by
 simp only[Sch.fU,Bool.and_eq_true,decide_eq_true_eq] at h;obtain⟨h1,h2,hto,hf,ht⟩:=h;have hn : 0<=s.nd/\s.nd<=8:=by unfold bm at h1;simpa using h1
 exact⟨hn.1,hn.2,h2,hto,hf,ht⟩
theorem ur.app{s:Sch}{d:bf}{c:bu}(hs:gi s)(h:ur s d)(hc:d.can s c=true):ur s (d.app s c):=by
 unfold bf.can at hc;rw[Bool.and_eq_true] at hc;unfold bf.app;by_cases hk:c.kd=1
 ·rw[if_pos hk]
  rw[if_pos hk] at hc;simp only[Bool.and_eq_true,bm,decide_eq_true_eq,Bool.not_eq_true',beq_eq_false_iff_ne] at hc;obtain⟨_,⟨h0,h1⟩,h16⟩:=hc;have hnd:=h.nd;have hlt:c.fi.toNat<d.sz.length:=by omega
  have hmf:=h.mp;have hget:∀j,(d.sz.set c.fi.toNat (d.sz.getD c.fi.toNat 0+1)).getD j 0=if j=c.fi.toNat then d.sz.getD c.fi.toNat 0+1 else d.sz.getD j 0:=fun j=>so hlt
  have hmp:∀e,(jZ d.mp (po s.fr c.fi s.fr.length)).getD e []=if e<s.fr.length/\s.fr.getD e 0=c.fi then d.mp.getD e []++[-1] else d.mp.getD e []:=AQ (by omega)
  have h16':=h.my _ hlt;refine⟨by simpa using hnd,by rw[rJ];exact hmf,fun i hi=>?_,fun e he=>?_,fun e i he hi=>?_⟩
  ·simp only[List.length_set] at hi
   simp only[hget];split
   ·omega
   ·exact h.my i hi
  ·simp only[rJ] at he
   simp only[hget,hmp];have hfe:=gw hs.fr (show e<s.fr.length by omega);have hle:=h.len e he;by_cases hx:s.fr.getD e 0=c.fi
   ·rw[if_pos ⟨by omega,hx⟩,hx,if_pos rfl,List.length_append,<-hx]
    simp only[List.length_cons,List.length_nil];omega
   ·rw[if_neg (fun hh=>hx hh.2),if_neg (fun hh=>hx (by omega))]
    exact hle
  ·simp only[rJ] at he
   simp only[hget];simp only[hmp] at hi|-
   have hte:=gw hs.yE (show e<s.to.length by rw[hs.to];omega)
   have up:∀v:Int,v<d.sz.getD (s.to.getD e 0).toNat 0->v<if(s.to.getD e 0).toNat=c.fi.toNat then d.sz.getD c.fi.toNat 0+1 else d.sz.getD (s.to.getD e 0).toNat 0:=by
    intro v hv;split
    ·rename_i hh;rw[hh] at hv;omega
    ·exact hv
   have hpos : -1<d.sz.getD (s.to.getD e 0).toNat 0:=by have:=(h.my (s.to.getD e 0).toNat (by omega)).1;omega
   by_cases hx:e<s.fr.length/\s.fr.getD e 0=c.fi
   ·rw[if_pos hx] at hi|-
    rw[List.getD_eq_getElem?_getD,List.getElem?_append];by_cases hi2:i<(d.mp.getD e []).length
    ·rw[if_pos hi2,<-List.getD_eq_getElem?_getD]
     have:=h.val e i he hi2;exact⟨this.1,up _ this.2⟩
    ·rw[if_neg hi2]
     have:i-(d.mp.getD e []).length=0:=by rw[List.length_append,List.length_cons,List.length_nil] at hi;omega
     rw[this];exact⟨by simp,up _ (by simpa using hpos)⟩
   ·rw[if_neg hx] at hi|-
    have:=h.val e i he hi;exact⟨this.1,up _ this.2⟩
 ·rw[if_neg hk]
  rw[if_neg hk] at hc;simp only[Bool.and_eq_true,bm,decide_eq_true_eq] at hc;obtain⟨_,⟨⟨h0,h1⟩,h2,h3⟩,h4,h5⟩:=hc;have hmf:=h.mp;have hlt:c.fi.toNat<d.mp.length:=by omega
  have hget:∀e,(d.mp.set c.fi.toNat ((d.mp.getD c.fi.toNat []).set c.se.toNat c.th)).getD e []=if e=c.fi.toNat then(d.mp.getD c.fi.toNat []).set c.se.toNat c.th else d.mp.getD e []:=fun e=>so hlt
  have hl:=h.len _ hlt;refine⟨h.nd,by simpa using hmf,h.my,fun e he=>?_,fun e i he hi=>?_⟩
  ·simp only[List.length_set] at he
   simp only[hget];split
   ·rename_i hh;rw[List.length_set,hh];exact hl
   ·exact h.len e he
  ·simp only[List.length_set] at he
   simp only[hget] at hi|-
   split at hi
   ·rename_i hh
    rw[if_pos hh,so (by omega)];subst hh;split
    ·omega
    ·exact h.val _ i he (by simpa using hi)
   ·rename_i hh
    rw[if_neg hh];exact h.val e i he hi
end Go.D3
