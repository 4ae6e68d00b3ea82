/- CONTRACTS: impl's faults. -/
import Derived.Test.YtaknpcdnmecblaaGAA
namespace Go.D3
theorem kY{P:Nat->Prop}{n:Nat}(h:∀j,j<n->P j)(hn:P n):∀j,j<n+1->P j:=fun j hj=>by
 by_cases h1:j<n
 ·exact h j h1
 ·rw[show j=n by omega];exact hn
theorem jC{α:Type}{F:Nat->Option α}:∀(n:Nat),(∀j,j<n->F j=none)->(List.range n).findSome? F=none:=by
 intro n h;rw[List.findSome?_eq_none_iff];intro x hx;exact h x (by simpa using hx)
theorem pE{α:Type}{F:Nat->Option α}{i:Nat}{r:α}:∀(n:Nat),(∀j,j<i->F j=none)->i<n->F i=some r->(List.range n).findSome? F=some r
 | 0,_,h,_=>by omega
 | n+1,h0,h1,h2=>by
  rw[List.range_succ,List.findSome?_append];by_cases h:i<n
  ·rw[pE n h0 h h2];rfl
  ·have:i=n:=by omega
   subst this;rw[jC i h0];simp[h2]
def Cat.aG(c:Cat)(f g:Int):Int:=(c.co.getD f.toNat []).getD g.toNat 0
def Cat.fF(c:Cat)(x:Int):Int:=c.aK.getD x.toNat 0
def Cat.iW(c:Cat)(f:Nat):Bool:=c.aG (c.fF (c.fr.getD f 0)) f != f || c.aG f (c.fF (c.to.getD f 0)) != f
def Cat.cM(c:Cat)(f g h:Nat):Bool:=c.to.getD f 0 == c.fr.getD g 0&&c.to.getD g 0 == c.fr.getD h 0&&c.aG (c.aG f g) h != c.aG f (c.aG g h)
def Cat.iP(c:Cat):Int×Int×Int×Int :=
 match(List.range c.fr.length).findSome? fun f=>if c.iW f then some f else none with
 | some f=>(1,f,0,0)
 | none=>match(List.range c.fr.length).findSome? fun f=>(List.range c.fr.length).findSome? fun g=>(List.range c.fr.length).findSome? fun h=>if c.cM f g h then some (f,g,h) else none with
  | some (f,g,h)=>(2,f,g,h)
  | none=>(0,0,0,0)
section
variable{c:Cat}
theorem Cat.zH{f g h:Nat}(h2:c.to.getD f 0≠c.fr.getD g 0):c.cM f g h=false:=by unfold Cat.cM;rw[beq_eq_false_iff_ne.2 h2];rfl
theorem Cat.zI{f g h:Nat}(h2:c.to.getD f 0=c.fr.getD g 0):c.cM f g h=(c.to.getD g 0 == c.fr.getD h 0&&c.aG (c.aG f g) h != c.aG f (c.aG g h)):=by unfold Cat.cM;rw[beq_iff_eq.2 h2];rfl
theorem Cat.AL{f:Nat}(h0:∀j,j<f->c.iW j=false)(h1:f<c.fr.length)(h2:c.iW f=true):c.iP=(1,(f:Int),0,0):=by
 unfold Cat.iP;rw[pE (i:=f) (r:=f) _ (fun j hj=>by simp[h0 j hj]) h1 (by simp[h2])]
theorem Cat.AM(h0:∀j,j<c.fr.length->c.iW j=false)(h:∀f g h,f<c.fr.length->g<c.fr.length->h<c.fr.length->c.cM f g h=false):c.iP=(0,0,0,0):=by
 unfold Cat.iP;rw[jC _ (fun j hj=>by simp[h0 j hj])];simp only;rw[jC _ fun f hf=>jC _ fun g hg=>jC _ fun h' hh=>by simp[h f g h' hf hg hh]]
theorem Cat.AK{f g h:Nat}(h0:∀j,j<c.fr.length->c.iW j=false)(hf:f<c.fr.length)(hg:g<c.fr.length)(hh:h<c.fr.length)(h1:c.cM f g h=true)
  (h2:∀h',h'<h->c.cM f g h'=false) (h3:∀g' h',g'<g->h'<c.fr.length->c.cM f g' h'=false) (h4:∀f' g' h',f'<f->g'<c.fr.length->h'<c.fr.length->c.cM f' g' h'=false):c.iP=(2,(f:Int),(g:Int),(h:Int)):=by
 unfold Cat.iP;rw[jC _ (fun j hj=>by simp[h0 j hj])];simp only
 rw[pE (i:=f) (r:=(f,g,h)) _ (fun f' hf'=>jC _ fun g' hg'=>jC _ fun h' hh'=>by simp[h4 f' g' h' hf' hg' hh']) hf
  (pE (i:=g) _ (fun g' hg'=>jC _ fun h' hh'=>by simp[h3 g' h' hg' hh']) hg (pE (i:=h) _ (fun h' hh'=>by simp[h2 h' hh']) hh (by simp[h1])))]
theorem Cat.Shape.uX(hs:c.Shape){f:Nat}(hf:f<c.fr.length) : 0<=c.fr.getD f 0/\c.fr.getD f 0<c.aK.length:=by
 have:=vv hs.uY hf;have:=hs.aK;omega
theorem Cat.Shape.xQ(hs:c.Shape){f:Nat}(hf:f<c.fr.length) : 0<=c.to.getD f 0/\c.to.getD f 0<c.aK.length:=by
 have:=vv hs.xR (i:=f) (by have:=hs.to;omega);have:=hs.aK;omega
theorem Cat.Shape.pK(hs:c.Shape){x:Int}(h0 : 0<=x)(h1:x<c.aK.length) : 0<=c.fF x/\c.fF x<c.fr.length:=hs.toPre.idx (x:=x.toNat) (by omega)
theorem Cat.Shape.iA(hs:c.Shape){f:Int}(h0 : 0<=f)(h1:f<c.fr.length):(c.co.getD f.toNat []).length=c.fr.length:=hs.row f.toNat (by omega)
theorem Cat.Shape.jA(hs:c.Shape){f g:Nat}(hf:f<c.fr.length)(hg:g<c.fr.length)(h:c.to.getD f 0=c.fr.getD g 0) : 0<=c.aG f g/\c.aG f g<c.fr.length/\c.fr.getD (c.aG f g).toNat 0=c.fr.getD f 0/\c.to.getD (c.aG f g).toNat 0=c.to.getD g 0:=by
 have hc:=hs.cells f g hf hg;unfold Cat.fQ at hc;rw[if_neg (by simp only[h,bne_self_eq_false];decide)] at hc;have e:c.cell f g=c.aG f g:=by simp[Cat.cell,Cat.aG]
 simp only[e,Bool.and_eq_true,decide_eq_true_eq,beq_iff_eq] at hc;exact⟨hc.1.1.1,hc.1.1.2,hc.1.2,hc.2⟩
theorem Cat.Shape.uz(hs:c.Shape){f g:Nat}(hf:f<c.fr.length)(hg:g<c.fr.length)(h:c.to.getD f 0≠c.fr.getD g 0):c.aG f g=-1:=by
 have hc:=hs.cells f g hf hg;unfold Cat.fQ at hc;rw[if_pos (by simpa using h)] at hc;have e:c.cell f g=c.aG f g:=by simp[Cat.cell,Cat.aG]
 rw[e] at hc;simpa using hc
end
def fd(r:Int×Int×Int×Int):D:=.au [.int .i64 r.1,.int .i64 r.2.1,.int .i64 r.2.2.1,.int .i64 r.2.2.2]
def Cat.cZ(c:Cat):Bool:=c.ga&&c.iP.1 == 0
end Go.D3
namespace Go.D3
open Go Proofs
set_option maxHeartbeats 4000000
set_option maxRecDepth 100000
theorem lB{c:Cat}(hs:c.Shape)(f g:Int)(h0 : 0<=f)(h1:f<c.fr.length)(h2 : 0<=g)(h3:g<c.fr.length):aD Try.prog 42 [.v (.ptr c.cells),.v (.int .i64 f),.v (.int .i64 g)] (.int .i64 (c.aG f g)) :=
 qv c f g h0 (by have:=hs.co;omega) h2 (by rw[hs.iA h0 h1];exact h3)
def xV:List Nat:=[0,2,3,4,5,6,7,8,9,10]
def DM:Sl:=al Try.types Try.f33 xV []
theorem J7:aX Try.prog Try.f33 xV DM 1=true:=by decide +kernel
theorem MR(c:Cat)(hs:c.Shape):aD Try.prog 33 [.v (.ptr c.cells)] (fd c.iP):=by
 have hm:=hs.fr;have hml:c.fr.length<=maxLen:=by simp only[maxLen];omega
 have hto:=hs.to;have hco:=hs.co;refine a7 Try.func33 J7 ?_;unfold DM al xV;simp only[go_sem];refine aC (sY c) rfl (.inl rfl) ?_;simp only[go_sem];refine ba [] (fun(f:Nat)=>[(6,.int .i64 f)]) (fun f=>f<=c.fr.length/\∀j,j<f->c.iW j=false) (fun f=>c.fr.length-f) 0 (by simp only[go_sem];rfl) ⟨Nat.zero_le _,fun j hj=>by omega⟩ rfl ?_;rintro f ⟨hf,ha⟩;simp only[go_sem];refine⟨fun h=>?_,fun h=>?_⟩
 ·have e1:=hs.uX h
  have e2:=hs.pK e1.1 e1.2;have e4:=hs.xQ h;have e5:=hs.pK e4.1 e4.2;refine⟨h,e1,aC (lB hs (c.fF (c.fr.getD f 0)) f e2.1 e2.2 (by omega) (by omega)) rfl (.inl rfl) ?_⟩;simp only[go_sem];refine⟨fun h2=>⟨h2,by omega⟩,fun h2=>⟨h2,e4⟩,dx (fun h=>lB hs f (c.fF (c.to.getD f 0)) (by omega) (by omega) e5.1 e5.2) rfl (fun h=>h) (.inl rfl) ?_⟩;simp only[go_sem];refine⟨fun h2=>by simpa only[Bool.not_eq_true'] using h2,fun h2=>?_,fun h2=>?_⟩
  ·rw[Cat.AL ha h h2];rfl
  ·exact⟨f+1,⟨by omega,fun j hj=>by by_cases hjf:j<f;exact ha j hjf;rw[show j=f by omega];exact h2⟩,by omega,by rw[aU h hml]⟩
 have:f=c.fr.length:=by omega
 subst this;refine ba [8,9] (fun(f:Nat)=>[(7,.int .i64 f)]) (fun f=>f<=c.fr.length/\∀f' g' h',f'<f->g'<c.fr.length->h'<c.fr.length->c.cM f' g' h'=false) (fun f=>c.fr.length-f) 0 (by simp only[go_sem];rfl) ⟨Nat.zero_le _,fun _ _ _ hj=>by omega⟩ rfl ?_;rintro f ⟨hf,hb⟩;simp only[go_sem];refine⟨fun hfl=>?_,fun h=>?_⟩
 ·refine ba [9] (fun(g:Nat)=>[(8,.int .i64 g)]) (fun g=>g<=c.fr.length/\∀g' h',g'<g->h'<c.fr.length->c.cM f g' h'=false) (fun g=>c.fr.length-g) 0 (by simp only[go_sem];rfl) ⟨Nat.zero_le _,fun _ _ hj=>by omega⟩ rfl ?_
  rintro g ⟨hg,hc⟩;simp only[go_sem];refine⟨fun hgl=>?_,fun h=>?_⟩
  ·refine aC (lB hs f g (by omega) (by omega) (by omega) (by omega)) rfl (.inl rfl) ?_
   simp only[go_sem];by_cases h2:c.to.getD f 0=c.fr.getD g 0
   ·have e1:=hs.jA hfl hgl h2
    refine⟨fun h3=>by omega,fun h3=>?_⟩;refine ba [] (fun(h:Nat)=>[(9,.int .i64 h)]) (fun h=>h<=c.fr.length/\∀h',h'<h->c.cM f g h'=false) (fun h=>c.fr.length-h) 0 (by simp only[go_sem];rfl) ⟨Nat.zero_le _,fun _ hj=>by omega⟩ rfl ?_;rintro h ⟨hh,hd⟩;simp only[go_sem];refine⟨fun hhl=>?_,fun h4=>?_⟩
    ·have hgh : 0<=c.aG g h->c.aG g h<c.fr.length/\c.to.getD g 0=c.fr.getD h 0:=fun h0=>by
      by_cases he:c.to.getD g 0=c.fr.getD h 0
      ·exact⟨(hs.jA hgl hhl he).2.1,he⟩
      ·rw[hs.uz hgl hhl he] at h0;exact absurd h0 (by decide)
     have hgh2:c.to.getD g 0=c.fr.getD h 0->0<=c.aG g h:=fun he=>(hs.jA hgl hhl he).1
     have hd2:∀{x:Int},decide (0<=x)=true->0<=x:=fun h=>by simpa using h
     refine aC (lB hs g h (by omega) (by omega) (by omega) (by omega)) rfl (.inl rfl) ?_;simp only[go_sem];refine dx (fun _=>lB hs f g (by omega) (by omega) (by omega) (by omega)) rfl (fun h=>h) (.inl rfl) ?_;simp only[go_sem];refine dx (fun _=>lB hs (c.aG f g) h e1.1 e1.2.1 (by omega) (by omega)) rfl (fun h=>h) (.inl rfl) ?_;simp only[go_sem];refine dx (fun _=>lB hs g h (by omega) (by omega) (by omega) (by omega)) rfl (fun h=>h) (.inl rfl) ?_;simp only[go_sem];refine dx (fun h5=>lB hs f (c.aG g h) (by omega) (by omega) (hd2 h5) (hgh (hd2 h5)).1) rfl (fun h=>h) (.inl rfl) ?_;simp only[go_sem]
     have hasf:c.cM f g h=(decide (0<=c.aG g h)&&c.aG (c.aG f g) h != c.aG f (c.aG g h)):=by
      rw[Cat.zI h2];congr 1;rw[Bool.eq_iff_iff,beq_iff_eq,decide_eq_true_eq];exact⟨hgh2,fun h5=>(hgh h5).2⟩
     rw[<-hasf];refine⟨fun h5=>?_,fun h5=>?_⟩
     ·rw[Cat.AK ha hfl hgl hhl h5 hd hc hb];rfl
     ·exact⟨h+1,⟨by omega,kY hd h5⟩,by omega,by rw[aU hhl hml]⟩
    ·have:h=c.fr.length:=by omega
     subst this;exact⟨g+1,⟨by omega,fun g' h' hg' hh'=>kY (P:=fun g'=>c.cM f g' h'=false) (fun j hj=>hc j h' hj hh') (hd h' hh') g' hg'⟩,by omega,by rw[aU hgl hml]⟩
   ·refine⟨fun h3=>⟨g+1,⟨by omega,fun g' h' hg' hh'=>kY (P:=fun g'=>c.cM f g' h'=false) (fun j hj=>hc j h' hj hh') (Cat.zH h2) g' hg'⟩,by omega,by rw[aU hgl hml]⟩,fun h3=>?_⟩
    rw[hs.uz hfl hgl h2] at h3;exact absurd h3 (by decide)
  ·have:g=c.fr.length:=by omega
   subst this;exact⟨f+1,⟨by omega,fun f' g' h' hf' hg' hh'=>kY (P:=fun f'=>c.cM f' g' h'=false) (fun j hj=>hb j g' h' hj hg' hh') (hc g' h' hg' hh') f' hf'⟩,by omega,by rw[aU hfl hml]⟩
 ·have:f=c.fr.length:=by omega
  subst this;rw[Cat.AM ha hb];rfl
end Go.D3
