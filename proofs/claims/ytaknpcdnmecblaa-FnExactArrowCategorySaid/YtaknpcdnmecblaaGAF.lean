/- CONTRACTS: faults. -/
import Derived.Test.YtaknpcdnmecblaaGAC
namespace Go.D3
open Go Proofs
set_option maxHeartbeats 4000000
set_option maxRecDepth 100000
def yJ:List Nat:=[0,2,3,4,5,1,6,7,8,9,10]
def Ew:Sl:=al Try.types Try.f29 yJ []
theorem KQ:aX Try.prog Try.f29 yJ Ew 1=true:=by decide +kernel
theorem Np(c:Cat)(hs:c.Shape):aD Try.prog 29 [.v c.d] (fd c.iP):=by
 have hm:=hs.fr;have hml:c.fr.length<=maxLen:=by simp only[maxLen];omega
 have hto:=hs.to;have hco:=hs.co;have cI:∀f g:Int,(c.co.getD f.toNat []).getD g.toNat 0=c.aG f g:=fun _ _=>rfl
 have iI:∀x:Int,c.aK.getD x.toNat 0=c.fF x:=fun _=>rfl
 refine a7 Try.func29 KQ ?_;unfold Ew al yJ;simp only[go_sem];refine ba [] (fun(f:Nat)=>[(7,.int .i64 f)]) (fun f=>f<=c.fr.length/\∀j,j<f->c.iW j=false) (fun f=>c.fr.length-f) 0 rfl ⟨Nat.zero_le _,fun j hj=>by omega⟩ rfl ?_;rintro f ⟨hf,ha⟩;simp only[go_sem];refine⟨fun h=>?_,fun h=>?_⟩
 ·have e1:=hs.uX h
  have e2:=hs.pK e1.1 e1.2;have e3:=hs.iA e2.1 e2.2;have e4:=hs.xQ h;have e5:=hs.pK e4.1 e4.2;have e6:=hs.row f h;simp only[Cat.fF] at e2 e3 e5;refine⟨h,e1,⟨e2.1,by omega⟩,by omega,fun h2=>⟨h2,by omega⟩,fun h2=>⟨h2,by omega⟩,fun h2=>⟨h2,e4⟩,fun h2=>⟨h2,e5.1,by omega⟩,fun h2=>by simpa only[Bool.not_eq_true'] using h2,fun h2=>?_,fun h2=>?_⟩
  ·rw[Cat.AL ha h h2];rfl
  ·exact⟨f+1,⟨by omega,fun j hj=>by by_cases hjf:j<f;exact ha j hjf;rw[show j=f by omega];exact h2⟩,by omega,by rw[aU h hml]⟩
 have:f=c.fr.length:=by omega
 subst this;refine ba [9,10] (fun(f:Nat)=>[(8,.int .i64 f)]) (fun f=>f<=c.fr.length/\∀f' g' h',f'<f->g'<c.fr.length->h'<c.fr.length->c.cM f' g' h'=false) (fun f=>c.fr.length-f) 0 rfl ⟨Nat.zero_le _,fun _ _ _ hj=>by omega⟩ rfl ?_;rintro f ⟨hf,hb⟩;simp only[go_sem];refine⟨fun hfl=>?_,fun h=>?_⟩
 ·refine ba [10] (fun(g:Nat)=>[(9,.int .i64 g)]) (fun g=>g<=c.fr.length/\∀g' h',g'<g->h'<c.fr.length->c.cM f g' h'=false) (fun g=>c.fr.length-g) 0 rfl ⟨Nat.zero_le _,fun _ _ hj=>by omega⟩ rfl ?_
  rintro g ⟨hg,hc⟩;simp only[go_sem];refine⟨fun hgl=>⟨by omega,hgl,fun h2=>?_,fun h2=>?_⟩,fun h=>?_⟩
  ·refine⟨g+1,⟨by omega,fun g' h' hg' hh'=>kY (P:=fun g'=>c.cM f g' h'=false) (fun j hj=>hc j h' hj hh') ?_ g' hg'⟩,by omega,by rw[aU hgl hml]⟩
   rw[bne_iff_ne] at h2;exact Cat.zH h2
  ·rw[bne_eq_false_iff_eq] at h2
   have e1:=hs.jA hfl hgl h2;refine ba [] (fun(h:Nat)=>[(10,.int .i64 h)]) (fun h=>h<=c.fr.length/\∀h',h'<h->c.cM f g h'=false) (fun h=>c.fr.length-h) 0 rfl ⟨Nat.zero_le _,fun _ hj=>by omega⟩ rfl ?_;rintro h ⟨hh,hd⟩;simp only[go_sem];have e3:=hs.iA e1.1 e1.2.1;have e4:=hs.row f hfl;have e5:=hs.row g hgl;have hasf:=fun h=>Cat.zI (h:=h) h2
   refine⟨fun hhl=>?_,fun h3=>?_⟩
   ·have e6:=hs.jA hgl hhl
    refine⟨by omega,hhl,fun h3=>⟨h3,by omega⟩,fun h3=>⟨h3,by omega⟩,fun h3=>⟨h3,e1.1,by rw[hco];exact e1.2.1⟩,fun h3=>⟨h3,Nat.lt_of_lt_of_eq hhl e3.symm⟩,fun h3=>⟨h3,by omega⟩,fun h3=>⟨h3,by omega⟩,fun h3=>⟨h3,by omega⟩,
     fun h3=>⟨h3,(e6 h3).1,by rw[e4];exact(e6 h3).2.1⟩,fun h3=>?_,fun h3=>?_⟩
    ·rw[Cat.AK ha hfl hgl hhl (by rw[hasf];exact h3) hd hc hb];rfl
    ·exact⟨h+1,⟨by omega,kY hd (by rw[hasf];exact h3)⟩,by omega,by rw[aU hhl hml]⟩
   ·have:h=c.fr.length:=by omega
    subst this;exact⟨g+1,⟨by omega,fun g' h' hg' hh'=>kY (P:=fun g'=>c.cM f g' h'=false) (fun j hj=>hc j h' hj hh') (hd h' hh') g' hg'⟩,by omega,by rw[aU hgl hml]⟩
  ·refine⟨f+1,⟨by omega,fun f' g' h' hf' hg' hh'=>kY (P:=fun f'=>c.cM f' g' h'=false) (fun j hj=>hb j g' h' hj hg' hh') (hc g' h' (by omega) hh') f' hf'⟩,by omega,by rw[aU hfl hml]⟩
 ·have:f=c.fr.length:=by omega
  subst this;rw[Cat.AM ha hb];rfl
end Go.D3
